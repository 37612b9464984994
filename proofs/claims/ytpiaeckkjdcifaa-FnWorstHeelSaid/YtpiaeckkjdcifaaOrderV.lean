/- Walk over a drawn order of loading. No condition. -/
import Derived.Test.YtpiaeckkjdcifaaPlanV
import Derived.Test.YtpiaeckkjdcifaaOkLoad
import Derived.Test.YtpiaeckkjdcifaaFind
namespace Go.Proofs.Ytpiaeckkjdcifaa
open Go
set_option linter.unusedVariables false
set_option linter.unusedSimpArgs false

theorem pig : ∀ (a o : List Int), a.Nodup → (∀ x ∈ a, x ∈ o) → a.length ≤ o.length
  | [], _, _, _ => Nat.zero_le _
  | x :: a, o, hn, hs => by
    have hx : x ∈ o := hs x (by simp)
    have hlen := List.length_erase_of_mem hx
    have hrec := pig a (o.erase x) (List.nodup_cons.1 hn).2 (fun y hy => (List.mem_erase_of_ne (show y ≠ x from fun e => (List.nodup_cons.1 hn).1 (by rw [← e]; exact hy))).2 (hs y (by simp [hy])))
    have hpos := List.length_pos_of_mem hx
    rw [List.length_cons]; omega
theorem full_mem {p : List Int} {x : Int} : x ∈ fullS p ↔ ∃ k : Nat, k < p.length ∧ (k : Int) = x ∧ p.getD k 0 ≠ 0 := by
  rw [fullS, selTo_mem]
  simp only [fullP, decide_eq_true_eq]
theorem order_down {b r t : Int} {bs : List BoxD} {p : List Int} (h : PlanOK b r t bs p) {o : List Int} (k : Nat) : (k : Int) ∈ fullS p → (k : Int) ∉ o → ∃ j : Nat, j < (fullS p).length ∧ (fullS p).getD j 0 ∉ o ∧ (0 ≤ belF b r t ((fullS p).getD j 0) → belF b r t ((fullS p).getD j 0) ∈ o) := by
  induction k using Nat.strongRecOn with
  | _ k ih =>
    intro h1 h2
    by_cases hb : 0 ≤ belF b r t k ∧ belF b r t k ∉ o
    · obtain ⟨q, hq, e, hz⟩ := full_mem.1 h1
      have e2 : q = k := by omega
      subst e2
      have hlen := h.len
      have hbel := belF_in (b := b) (r := r) (t := t) (s := (q : Int)) h.ship (by omega) (by omega)
      by_cases hm : 0 < (q : Int) % t
      · rw [if_pos hm] at hbel
        have hf := h.firm q hq hz hm
        have hq0 : q ≠ 0 := by intro e; subst e; simp at hm
        have e3 : ((q - 1 : Nat) : Int) = (q : Int) - 1 := by omega
        exact ih (q - 1) (by omega) (full_mem.2 ⟨q - 1, by omega, rfl, hf⟩) (by rw [e3, ← hbel]; exact hb.2)
      · rw [if_neg hm] at hbel; omega
    · obtain ⟨j, hj, e⟩ := mem_getD h1
      exact ⟨j, hj, by rw [e]; exact h2, by rw [e]; intro h3; exact Classical.byContradiction fun h4 => hb ⟨h3, h4⟩⟩
theorem order_free {b r t : Int} {bs : List BoxD} {p : List Int} (h : PlanOK b r t bs p) {o : List Int} (hl : o.length < (fullS p).length) : ∃ j : Nat, j < (fullS p).length ∧ (fullS p).getD j 0 ∉ o ∧ (0 ≤ belF b r t ((fullS p).getD j 0) → belF b r t ((fullS p).getD j 0) ∈ o) := by
  have hnd : (fullS p).Nodup := (selTo_asc (fullP p) p.length).imp (fun h => by omega)
  have hex : ∃ x, x ∈ fullS p ∧ x ∉ o := Classical.byContradiction fun hn => by
    have := pig (fullS p) o hnd (fun x hx => Classical.byContradiction fun hx2 => hn ⟨x, hx, hx2⟩)
    omega
  obtain ⟨x, hx, hx2⟩ := hex
  obtain ⟨k, hk, e, hz⟩ := full_mem.1 hx
  exact order_down h k (by rw [e]; exact hx) (by rw [e]; exact hx2)
theorem next_mod {a n : Int} (h0 : 0 ≤ a) (h1 : a < n) : (a + 1) % n = if a + 1 = n then 0 else a + 1 := by
  split
  · rename_i h; rw [h]; exact Int.emod_self
  · exact Int.emod_eq_of_lt (by omega) (by omega)
theorem full_le (p : List Int) : (fullS p).length ≤ p.length := selTo_len _ _

def c_spec_l20OrderR : List AV → List Own → Option (Prop × (CRes → Prop)) := fun xs os => match xs, os with
    | [.agg [.int y1, .int y2, .int y3], .rs .i64 pl], [.var [.rs .u8 b, .int p]] => some (codeOK b ∧ (0 ≤ p ∧ p ≤ 900000) ∧ pl.length ≤ 37 ∧ ∃ bs, planB y1 y2 y3 bs pl = true, fun R => ∃ (o : List Int) (q : Int), R = ⟨True, .sl 0, [.sl 3 .i64 o], [.var [.rs .u8 b, .int q]]⟩ ∧ (o.length ≤ 37 ∧ (p ≤ q ∧ q ≤ p + 100)))
    | _, _ => none
def c_spec_l20Order : Ctr := ⟨[.m, .v .p, .v (.r .i64)], true, fun _ _ => none, some c_spec_l20OrderR⟩
theorem m_spec_l20Order : Meets Try.prog 131 c_spec_l20Order := by
  refine meetsR_of (T := tyT) tyOK Try.func131 (by rfl) rfl (by decide) ?_
  intro args owns pre S hrun hpre
  simp only [c_spec_l20OrderR] at hrun
  split at hrun
  case h_2 => cases hrun
  rename_i y1 y2 y3 pl b p
  cases hrun
  try dsimp only at hpre
  refine ⟨⟨[(0, .op 0 0), (1, .agg [.int y1, .int y2, .int y3]), (2, .rs .i64 pl)], [(0, some (.var [.rs .u8 b, .int p]))], 61⟩, rfl, fun E hP hnt hnp => ?_⟩
  replace hnt : E.nt = 61 := hnt
  replace hnp : E.np = 3 := hnp
  have hT : ∀ t d, tyT t = some d → TyOK E.P t d := hP ▸ tyOK
  have hG : ∀ f C, Γof [(59, c_spec_l20Rd_pick), (67, c_spec_l1Has), (84, c_spec_SlotBelow), (99, c_spec_l9Slots)] f = some C → Meets E.P f C := hΓof (by rw [hP]; exact ⟨m_spec_l20Rd_pick, m_spec_l1Has, m_spec_SlotBelow, m_spec_l9Slots, trivial⟩)
  try simp only [show Try.f131.ntmps = 61 from rfl]
  have hc := hpre.1
  have hp := hpre.2.1
  have hpl := hpre.2.2.1
  obtain ⟨bs, hpb⟩ := hpre.2.2.2
  have hok := planB_ok hpb
  have hfl := full_le pl
  refine W_seq (fun K1 hK1 => ?_)
  refine W_region hT hG [] [0, 2, 4] ?_
  rw [hnt]
  simp only [baseS, eq_self, implies_true, if_true, if_false, reduceIte, Nat.reduceBEq, Nat.reduceEqDiff, Nat.reduceLT, Nat.reduceAdd, reduceCtorEq, tyInt, tdInt, tyInts, tdInts, tyHull, tdHull, tyRdP, tdRdP, c_spec_l20Rd_pick, c_spec_l1Has, c_spec_SlotBelow, c_spec_l9Slots, storeAV, setAll, FT.of, FT.setf, List.set_cons_zero, List.set_cons_succ, Option.isSome_some, Int.add_assoc, Int.reduceAdd, rowsAV, appAV, srcRows, srcFlat, reduceDIte, room, List.length_append, Nat.reduceLeDiff, elems, Int.mul_assoc]
  repeat (refine And.intro ?_ ?_; focus (first | exact ordP (by kernel_rfl) | with_reducible exact rfl | trivial | assumption | (simp only [inR]; omega) | omega | exact ⟨hc, by omega, by omega⟩ | exact ⟨hc, by omega, by omega, by omega⟩ | exact ⟨_, rfl⟩ | exact ⟨by omega, by omega⟩ | (simp only [List.length_append, List.length_cons, List.length_nil, room]; omega)))
  refine hK1 _ ?_
  clear hK1
  refine W_seq (fun K2 hK2 => ?_)
  refine W_region hT hG [] [0, 2, 4, 7] ?_
  rw [hnt]
  simp only [baseS, eq_self, implies_true, if_true, if_false, reduceIte, Nat.reduceBEq, Nat.reduceEqDiff, Nat.reduceLT, Nat.reduceAdd, reduceCtorEq, tyInt, tdInt, tyInts, tdInts, tyHull, tdHull, tyRdP, tdRdP, c_spec_l20Rd_pick, c_spec_l1Has, c_spec_SlotBelow, c_spec_l9Slots, storeAV, setAll, FT.of, FT.setf, List.set_cons_zero, List.set_cons_succ, Option.isSome_some, Int.add_assoc, Int.reduceAdd, rowsAV, appAV, srcRows, srcFlat, reduceDIte, room, List.length_append, Nat.reduceLeDiff, elems, Int.mul_assoc]
  repeat (refine And.intro ?_ ?_; focus (first | exact ordP (by kernel_rfl) | with_reducible exact rfl | trivial | assumption | (simp only [inR]; omega) | omega | exact ⟨hc, by omega, by omega⟩ | exact ⟨hc, by omega, by omega, by omega⟩ | exact ⟨_, rfl⟩ | exact ⟨by omega, by omega⟩ | (simp only [List.length_append, List.length_cons, List.length_nil, room]; omega)))
  refine hK2 _ ?_
  clear hK2
  refine W_seq (fun K3 hK3 => ?_)
  refine W_region hT hG [] [0, 4, 7, 8] ?_
  rw [hnt]
  simp only [baseS, eq_self, implies_true, if_true, if_false, reduceIte, Nat.reduceBEq, Nat.reduceEqDiff, Nat.reduceLT, Nat.reduceAdd, reduceCtorEq, tyInt, tdInt, tyInts, tdInts, tyHull, tdHull, tyRdP, tdRdP, c_spec_l20Rd_pick, c_spec_l1Has, c_spec_SlotBelow, c_spec_l9Slots, storeAV, setAll, FT.of, FT.setf, List.set_cons_zero, List.set_cons_succ, Option.isSome_some, Int.add_assoc, Int.reduceAdd, rowsAV, appAV, srcRows, srcFlat, reduceDIte, room, List.length_append, Nat.reduceLeDiff, elems, Int.mul_assoc]
  repeat (refine And.intro ?_ ?_; focus (first | exact ordP (by kernel_rfl) | with_reducible exact rfl | trivial | assumption | (simp only [inR]; omega) | omega | exact ⟨hc, by omega, by omega⟩ | exact ⟨hc, by omega, by omega, by omega⟩ | exact ⟨_, rfl⟩ | exact ⟨by omega, by omega⟩ | (simp only [List.length_append, List.length_cons, List.length_nil, room]; omega)))
  refine hK3 _ ?_
  clear hK3
  refine W_seq (fun K4 hK4 => ?_)
  refine W_block ?_
  refine W_loop (α := List Int × Int) [(0, .var), (4, .as), (7, .own 3 .i64), (8, .fz .i64)] (fun x => ⟨[(0, .op 0 0), (4, .rp [.int y1, .int y2, .int y3]), (7, .sl 7), (8, .rs .i64 (fullS pl))], [(0, some (.var [.rs .u8 b, .int (x.2)])), (7, some (.sl 3 .i64 x.1))], 61⟩) (fun x => x.1.length ≤ (fullS pl).length ∧ (p ≤ x.2 ∧ x.2 ≤ p + x.1.length)) (fun x => (fullS pl).length - x.1.length) ([], p) ?_ ?_ ?_
  · (try simp only [hnt, hnp]); rfl
  · exact ⟨by simp, by simp only [List.length_nil]; omega⟩
  rintro ⟨o, q⟩ ⟨hl, hq⟩
  dsimp only at hl hq ⊢
  refine W_seq (fun K6 hK6 => ?_)
  refine W_seq (fun K7 hK7 => ?_)
  refine W_region hT hG [] [0, 4, 7, 8, 17] ?_
  rw [hnt]
  simp only [baseS, eq_self, implies_true, if_true, if_false, reduceIte, Nat.reduceBEq, Nat.reduceEqDiff, Nat.reduceLT, Nat.reduceAdd, reduceCtorEq, tyInt, tdInt, tyInts, tdInts, tyHull, tdHull, tyRdP, tdRdP, c_spec_l20Rd_pick, c_spec_l1Has, c_spec_SlotBelow, c_spec_l9Slots, storeAV, setAll, FT.of, FT.setf, List.set_cons_zero, List.set_cons_succ, Option.isSome_some, Int.add_assoc, Int.reduceAdd, rowsAV, appAV, srcRows, srcFlat, reduceDIte, room, List.length_append, Nat.reduceLeDiff, elems, Int.mul_assoc]
  repeat (refine And.intro ?_ ?_; focus (first | exact ordP (by kernel_rfl) | with_reducible exact rfl | trivial | assumption | (simp only [inR]; omega) | omega | exact ⟨hc, by omega, by omega⟩ | exact ⟨hc, by omega, by omega, by omega⟩ | exact ⟨_, rfl⟩ | exact ⟨by omega, by omega⟩ | (simp only [List.length_append, List.length_cons, List.length_nil, room]; omega)))
  refine hK7 _ ?_
  clear hK7
  refine W_cond (b := _) rfl (fun hc8 => ?_) (fun hc8 => ?_)
  · try simp only [decide_eq_true_eq, decide_eq_false_iff_not, ne_eq, Decidable.not_not, Bool.not_eq_true', Bool.not_eq_false', Bool.or_eq_true, Bool.and_eq_true, Bool.or_eq_false_iff, Bool.and_eq_false_iff] at hc8
    refine W_skip ?_
    simp only [thenQ, blockQ, loopQ, reduceIte, Nat.reduceEqDiff]
    refine hK6 _ ?_
    clear hK6
    refine W_block ?_
    refine W_seq (fun K9 hK9 => ?_)
    refine W_region hT hG [] [0, 4, 7, 8, 9] ?_
    rw [hnt]
    obtain ⟨jm, hjm, hj1, hj2⟩ := order_free hok (o := o) (by omega)
    have hpk := pick_box (b := b) (p := q) (n := ((fullS pl).length : Int)) (by omega)
    simp only [baseS, eq_self, implies_true, if_true, if_false, reduceIte, Nat.reduceBEq, Nat.reduceEqDiff, Nat.reduceLT, Nat.reduceAdd, reduceCtorEq, tyInt, tdInt, tyInts, tdInts, tyHull, tdHull, tyRdP, tdRdP, c_spec_l20Rd_pick, c_spec_l1Has, c_spec_SlotBelow, c_spec_l9Slots, storeAV, setAll, FT.of, FT.setf, List.set_cons_zero, List.set_cons_succ, Option.isSome_some, Int.add_assoc, Int.reduceAdd, rowsAV, appAV, srcRows, srcFlat, reduceDIte, room, List.length_append, Nat.reduceLeDiff, elems, Int.mul_assoc]
    repeat (refine And.intro ?_ ?_; focus (first | exact ordP (by kernel_rfl) | with_reducible exact rfl | trivial | assumption | (simp only [inR]; omega) | omega | exact ⟨hc, by omega, by omega⟩ | exact ⟨hc, by omega, by omega, by omega⟩ | exact ⟨_, rfl⟩ | exact ⟨by omega, by omega⟩ | (simp only [List.length_append, List.length_cons, List.length_nil, room]; omega)))
    refine hK9 _ ?_
    clear hK9
    refine W_seq (fun K10 hK10 => ?_)
    refine W_block ?_
    refine W_loop (α := Int) [(0, .var), (4, .as), (7, .own 3 .i64), (8, .as), (9, .as)] (fun a => ⟨[(0, .op 0 0), (4, .rp [.int y1, .int y2, .int y3]), (7, .sl 7), (8, .rs .i64 (fullS pl)), (9, .int a)], [(0, some (.var [.rs .u8 b, .int (q + 1)])), (7, some (.sl 3 .i64 o))], 61⟩) (fun a => 0 ≤ a ∧ a < (fullS pl).length) (fun a => (if a ≤ jm then (jm : Int) - a else jm + (fullS pl).length - a).toNat) (pickV b q (fullS pl).length) ?_ ?_ ?_
    · (try simp only [hnt, hnp]); rfl
    · exact ⟨by omega, by omega⟩
    rintro a ha
    have hnm := next_mod ha.1 ha.2
    refine W_seq (fun K12 hK12 => ?_)
    refine W_seq (fun K13 hK13 => ?_)
    refine W_region_draw hT hG (by rw [hP]; exact draws_ok) [] [0, 4, 7, 8, 9, 47] ?_
    rw [hnt]
    simp only [baseS, eq_self, implies_true, if_true, if_false, reduceIte, Nat.reduceBEq, Nat.reduceEqDiff, Nat.reduceLT, Nat.reduceAdd, reduceCtorEq, tyInt, tdInt, tyInts, tdInts, tyHull, tdHull, tyRdP, tdRdP, c_spec_l20Rd_pick, c_spec_l1Has, c_spec_SlotBelow, c_spec_l9Slots, storeAV, setAll, FT.of, FT.setf, List.set_cons_zero, List.set_cons_succ, Option.isSome_some, Int.add_assoc, Int.reduceAdd, rowsAV, appAV, srcRows, srcFlat, reduceDIte, room, List.length_append, Nat.reduceLeDiff, elems, Int.mul_assoc]
    repeat (refine And.intro ?_ ?_; focus (first | exact ordP (by kernel_rfl) | with_reducible exact rfl | trivial | assumption | (simp only [inR]; omega) | omega | exact ⟨hc, by omega, by omega⟩ | exact ⟨hc, by omega, by omega, by omega⟩ | exact ⟨_, rfl⟩ | exact ⟨by omega, by omega⟩ | (simp only [List.length_append, List.length_cons, List.length_nil, room]; omega) | (intro hh; exact ⟨hh, by omega, by omega⟩) | (intro hh; exact ⟨hh, by omega⟩) | (intro hh; exact ⟨hh, fun h2 => ⟨hh, h2⟩⟩)))
    refine hK13 _ ?_
    clear hK13
    refine W_cond (b := _) rfl (fun hc14 => ?_) (fun hc14 => ?_)
    · try simp only [decide_eq_true_eq, decide_eq_false_iff_not, ne_eq, Decidable.not_not, Bool.not_eq_true', Bool.not_eq_false', Bool.or_eq_true, Bool.and_eq_true, Bool.or_eq_false_iff, Bool.and_eq_false_iff] at hc14
      refine W_skip ?_
      simp only [thenQ, blockQ, loopQ, reduceIte, Nat.reduceEqDiff]
      refine hK12 _ ?_
      clear hK12
      refine W_block ?_
      refine W_region hT hG [] [0, 4, 7, 8, 9] ?_
      rw [hnt]
      simp only [baseS, eq_self, implies_true, if_true, if_false, reduceIte, Nat.reduceBEq, Nat.reduceEqDiff, Nat.reduceLT, Nat.reduceAdd, reduceCtorEq, tyInt, tdInt, tyInts, tdInts, tyHull, tdHull, tyRdP, tdRdP, c_spec_l20Rd_pick, c_spec_l1Has, c_spec_SlotBelow, c_spec_l9Slots, storeAV, setAll, FT.of, FT.setf, List.set_cons_zero, List.set_cons_succ, Option.isSome_some, Int.add_assoc, Int.reduceAdd, rowsAV, appAV, srcRows, srcFlat, reduceDIte, room, List.length_append, Nat.reduceLeDiff, elems, Int.mul_assoc]
      repeat (refine And.intro ?_ ?_; focus (first | exact ordP (by kernel_rfl) | with_reducible exact rfl | trivial | assumption | (simp only [inR]; omega) | omega | exact ⟨hc, by omega, by omega⟩ | exact ⟨hc, by omega, by omega, by omega⟩ | exact ⟨_, rfl⟩ | exact ⟨by omega, by omega⟩ | (simp only [List.length_append, List.length_cons, List.length_nil, room]; omega)))
      have hne : a ≠ (jm : Int) := fun e => by
        rw [e, Int.toNat_natCast] at hc14
        rcases hc14 with h | h
        · exact hj1 h
        · exact h.2 (hj2 h.1)
      refine ⟨(a + 1) % ((fullS pl).length : Int), (by (try simp only [hnt, hnp]); rfl), ⟨by rw [hnm]; split <;> omega, by rw [hnm]; split <;> omega⟩, by dsimp only; rw [hnm]; (repeat' split) <;> omega⟩
    · try simp only [decide_eq_true_eq, decide_eq_false_iff_not, ne_eq, Decidable.not_not, Bool.not_eq_true', Bool.not_eq_false', Bool.or_eq_true, Bool.and_eq_true, Bool.or_eq_false_iff, Bool.and_eq_false_iff] at hc14
      refine W_exit ?_
      simp only [thenQ, blockQ, loopQ, reduceIte, Nat.reduceEqDiff]
      refine hK10 _ ?_
      clear hK10
      refine W_region hT hG [] [0, 4, 7, 8] ?_
      rw [hnt]
      simp only [baseS, eq_self, implies_true, if_true, if_false, reduceIte, Nat.reduceBEq, Nat.reduceEqDiff, Nat.reduceLT, Nat.reduceAdd, reduceCtorEq, tyInt, tdInt, tyInts, tdInts, tyHull, tdHull, tyRdP, tdRdP, c_spec_l20Rd_pick, c_spec_l1Has, c_spec_SlotBelow, c_spec_l9Slots, storeAV, setAll, FT.of, FT.setf, List.set_cons_zero, List.set_cons_succ, Option.isSome_some, Int.add_assoc, Int.reduceAdd, rowsAV, appAV, srcRows, srcFlat, reduceDIte, room, List.length_append, Nat.reduceLeDiff, elems, Int.mul_assoc]
      repeat (refine And.intro ?_ ?_; focus (first | exact ordP (by kernel_rfl) | with_reducible exact rfl | trivial | assumption | (simp only [inR]; omega) | omega | exact ⟨hc, by omega, by omega⟩ | exact ⟨hc, by omega, by omega, by omega⟩ | exact ⟨_, rfl⟩ | exact ⟨by omega, by omega⟩ | (simp only [List.length_append, List.length_cons, List.length_nil, room]; omega)))
      refine ⟨(o ++ [_], q + 1), (by (try simp only [hnt, hnp]); rfl), ⟨by simp only [List.length_append, List.length_cons, List.length_nil]; omega, by simp only [List.length_append, List.length_cons, List.length_nil]; omega⟩, by simp only [List.length_append, List.length_cons, List.length_nil]; omega⟩
  · try simp only [decide_eq_true_eq, decide_eq_false_iff_not, ne_eq, Decidable.not_not, Bool.not_eq_true', Bool.not_eq_false', Bool.or_eq_true, Bool.and_eq_true, Bool.or_eq_false_iff, Bool.and_eq_false_iff] at hc8
    refine W_exit ?_
    simp only [thenQ, blockQ, loopQ, reduceIte, Nat.reduceEqDiff]
    refine hK4 _ ?_
    clear hK4
    refine W_seq (fun K15 hK15 => ?_)
    refine W_region hT hG [] [0, 6] ?_
    rw [hnt]
    simp only [baseS, eq_self, implies_true, if_true, if_false, reduceIte, Nat.reduceBEq, Nat.reduceEqDiff, Nat.reduceLT, Nat.reduceAdd, reduceCtorEq, tyInt, tdInt, tyInts, tdInts, tyHull, tdHull, tyRdP, tdRdP, c_spec_l20Rd_pick, c_spec_l1Has, c_spec_SlotBelow, c_spec_l9Slots, storeAV, setAll, FT.of, FT.setf, List.set_cons_zero, List.set_cons_succ, Option.isSome_some, Int.add_assoc, Int.reduceAdd, rowsAV, appAV, srcRows, srcFlat, reduceDIte, room, List.length_append, Nat.reduceLeDiff, elems, Int.mul_assoc]
    repeat (refine And.intro ?_ ?_; focus (first | exact ordP (by kernel_rfl) | with_reducible exact rfl | trivial | assumption | (simp only [inR]; omega) | omega | exact ⟨hc, by omega, by omega⟩ | exact ⟨hc, by omega, by omega, by omega⟩ | exact ⟨_, rfl⟩ | exact ⟨by omega, by omega⟩ | (simp only [List.length_append, List.length_cons, List.length_nil, room]; omega)))
    refine hK15 _ ?_
    clear hK15
    refine W_re [(0, .var), (6, .own 3 .i64)] (by (try simp only [hnt, hnp]); rfl) ?_
    refine W_ret ?_
    simp only [thenQ, blockQ, loopQ, retR, retQ, reduceIte, Nat.reduceEqDiff]
    refine rr2 (retmn 0 6 rfl rfl rfl (by decide) rfl rfl (.inl rfl) rfl) ?_
    refine ⟨by omega, by omega, by omega⟩

end Go.Proofs.Ytpiaeckkjdcifaa
