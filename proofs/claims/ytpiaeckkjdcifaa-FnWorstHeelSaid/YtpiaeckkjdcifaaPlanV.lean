/- Walks over drawn ships and plans that are valid. No condition. -/
import Derived.Test.YtpiaeckkjdcifaaDraw0
namespace Go.Proofs.Ytpiaeckkjdcifaa
open Go
set_option linter.unusedVariables false
set_option linter.unusedSimpArgs false

theorem hull_ok {b : List Int} {p n : Int} (h : n = 0) : hv (hullV b p n).1 (hullV b p n).2.1 (hullV b p n).2.2.1 = true := by
  subst h
  rw [hullV_n (oddB_0 _ _)]
  have h4 := pick_box (b := b) (p := p) (n := 4) (by omega)
  have h3 := pick_box (b := b) (p := p + 1) (n := 3) (by omega)
  have h2 := pick_box (b := b) (p := p + 2) (n := 3) (by omega)
  simp only [hv, decide_eq_true_eq]
  omega
theorem empty_ok {b r t : Int} {bs : List BoxD} (h : hv b r t = true) (hb : boxesB bs = true) : planB b r t bs (emptyR b r t) = true := by
  have hbx := hv_box h
  have hz : ∀ k, (emptyR b r t).getD k 0 = 0 := fun k => by
    rw [emptyR, if_pos h, List.getD_eq_getElem?_getD, List.getElem?_replicate]; split <;> rfl
  exact planB_of { ship := h, boxes := hb, len := by rw [emptyR, if_pos h, List.length_replicate]; omega, inb := fun k => .inl (hz k), uniq := fun j k _ _ hk => absurd (hz k) hk, firm := fun k _ hk => absurd (hz k) hk }
theorem put_valid {b r t : Int} {bs : List BoxD} {p : List Int} {s n : Int} (h : planB b r t bs p = true) : planB b r t bs (putR b r t bs p s n).1 = true := by
  unfold putR
  rw [if_pos h]
  split
  · split
    · assumption
    · exact h
  · exact h

def c_spec_l20HullZ : Ctr where
  modes := [.m, .v .p]
  al := true
  run := fun xs os => match xs, os with
    | [.int n], [.var [.rs .u8 b, .int p]] => some ⟨codeOK b ∧ (0 ≤ p ∧ p ≤ 900000) ∧ (0 ≤ n ∧ n ≤ 1000), .agg [.int (hullV b p n).1, .int (hullV b p n).2.1, .int (hullV b p n).2.2.1], [], [.var [.rs .u8 b, .int (hullV b p n).2.2.2]]⟩
    | _, _ => none
theorem m_spec_l20HullZ : Meets Try.prog 117 c_spec_l20HullZ := by
  refine meets_of (T := tyT) tyOK Try.func117 (by rfl) rfl (by decide) ?_
  intro args owns R hrun hpre
  simp only [c_spec_l20HullZ] at hrun
  split at hrun
  case h_2 => cases hrun
  rename_i n b p
  cases hrun
  try dsimp only at hpre
  refine ⟨⟨[(0, .op 0 0), (1, .int n)], [(0, some (.var [.rs .u8 b, .int p]))], 44⟩, rfl, fun E hP hnt hnp => ?_⟩
  replace hnt : E.nt = 44 := hnt
  replace hnp : E.np = 2 := hnp
  have hT : ∀ t d, tyT t = some d → TyOK E.P t d := hP ▸ tyOK
  have hG : ∀ f C, Γof [(59, c_spec_l20Rd_pick), (60, c_spec_l20Rd_odd)] f = some C → Meets E.P f C := hΓof (by rw [hP]; exact ⟨m_spec_l20Rd_pick, m_spec_l20Rd_odd, trivial⟩)
  try simp only [show Try.f117.ntmps = 44 from rfl]
  have hc := hpre.1
  have hp := hpre.2.1
  have hn := hpre.2.2
  have h4 := pick_box (b := b) (p := p) (n := 4) (by omega)
  have h3 := pick_box (b := b) (p := p + 1) (n := 3) (by omega)
  have h2 := pick_box (b := b) (p := p + 2) (n := 3) (by omega)
  have ho := oddP_box (p + 3) n
  have h5 := pick_box (b := b) (p := oddP (p + 3) n) (n := 3) (by omega)
  have h6 := pick_box (b := b) (p := oddP (p + 3) n + 1) (n := 2) (by omega)
  refine W_seq (fun K1 hK1 => ?_)
  refine W_region hT hG [] [0, 1, 4] ?_
  rw [hnt]
  simp only [baseS, eq_self, implies_true, if_true, if_false, reduceIte, Nat.reduceBEq, Nat.reduceEqDiff, Nat.reduceLT, Nat.reduceAdd, reduceCtorEq, tyInt, tdInt, tyInts, tdInts, tyHull, tdHull, tyRdP, tdRdP, c_spec_l20Rd_pick, c_spec_l20Rd_odd, storeAV, setAll, FT.of, elems, List.set_cons_zero, List.set_cons_succ, List.getD_cons_zero, Option.isSome_some, Int.add_assoc, Int.reduceAdd]
  repeat (refine And.intro ?_ ?_; focus (first | exact ordP (by kernel_rfl) | with_reducible exact rfl | trivial | assumption | (simp only [inR]; omega) | omega | exact ⟨hc, by omega, by omega⟩ | exact ⟨_, rfl⟩))
  refine hK1 _ ?_
  clear hK1
  refine W_seq (fun K2 hK2 => ?_)
  refine W_region hT hG [] [0, 1, 4, 5] ?_
  rw [hnt]
  simp only [baseS, eq_self, implies_true, if_true, if_false, reduceIte, Nat.reduceBEq, Nat.reduceEqDiff, Nat.reduceLT, Nat.reduceAdd, reduceCtorEq, tyInt, tdInt, tyInts, tdInts, tyHull, tdHull, tyRdP, tdRdP, c_spec_l20Rd_pick, c_spec_l20Rd_odd, storeAV, setAll, FT.of, elems, List.set_cons_zero, List.set_cons_succ, List.getD_cons_zero, Option.isSome_some, Int.add_assoc, Int.reduceAdd]
  repeat (refine And.intro ?_ ?_; focus (first | exact ordP (by kernel_rfl) | with_reducible exact rfl | trivial | assumption | (simp only [inR]; omega) | omega | exact ⟨hc, by omega, by omega⟩ | exact ⟨_, rfl⟩))
  refine hK2 _ ?_
  clear hK2
  refine W_seq (fun K3 hK3 => ?_)
  refine W_seq (fun K4 hK4 => ?_)
  refine W_region hT hG [] [0, 4, 5, 18] ?_
  rw [hnt]
  simp only [baseS, eq_self, implies_true, if_true, if_false, reduceIte, Nat.reduceBEq, Nat.reduceEqDiff, Nat.reduceLT, Nat.reduceAdd, reduceCtorEq, tyInt, tdInt, tyInts, tdInts, tyHull, tdHull, tyRdP, tdRdP, c_spec_l20Rd_pick, c_spec_l20Rd_odd, storeAV, setAll, FT.of, elems, List.set_cons_zero, List.set_cons_succ, List.getD_cons_zero, Option.isSome_some, Int.add_assoc, Int.reduceAdd]
  repeat (refine And.intro ?_ ?_; focus (first | exact ordP (by kernel_rfl) | with_reducible exact rfl | trivial | assumption | (simp only [inR]; omega) | omega | exact ⟨hc, by omega, by omega⟩ | exact ⟨_, rfl⟩))
  refine hK4 _ ?_
  clear hK4
  refine W_cond (b := _) rfl (fun hc5 => ?_) (fun hc5 => ?_)
  · try simp only [decide_eq_true_eq, decide_eq_false_iff_not, ne_eq, Decidable.not_not, Bool.not_eq_true', Bool.not_eq_false', Bool.or_eq_true, Bool.and_eq_true, Bool.or_eq_false_iff, Bool.and_eq_false_iff] at hc5
    refine W_seq (fun K6 hK6 => ?_)
    refine W_region hT hG [] [0, 4, 5, 20] ?_
    rw [hnt]
    simp only [baseS, eq_self, implies_true, if_true, if_false, reduceIte, Nat.reduceBEq, Nat.reduceEqDiff, Nat.reduceLT, Nat.reduceAdd, reduceCtorEq, tyInt, tdInt, tyInts, tdInts, tyHull, tdHull, tyRdP, tdRdP, c_spec_l20Rd_pick, c_spec_l20Rd_odd, storeAV, setAll, FT.of, elems, List.set_cons_zero, List.set_cons_succ, List.getD_cons_zero, Option.isSome_some, Int.add_assoc, Int.reduceAdd]
    repeat (refine And.intro ?_ ?_; focus (first | exact ordP (by kernel_rfl) | with_reducible exact rfl | trivial | assumption | (simp only [inR]; omega) | omega | exact ⟨hc, by omega, by omega⟩ | exact ⟨_, rfl⟩))
    refine hK6 _ ?_
    clear hK6
    refine W_block ?_
    refine W_seq (fun K7 hK7 => ?_)
    refine W_region hT hG [] [0, 4, 5, 20, 27] ?_
    rw [hnt]
    simp only [baseS, eq_self, implies_true, if_true, if_false, reduceIte, Nat.reduceBEq, Nat.reduceEqDiff, Nat.reduceLT, Nat.reduceAdd, reduceCtorEq, tyInt, tdInt, tyInts, tdInts, tyHull, tdHull, tyRdP, tdRdP, c_spec_l20Rd_pick, c_spec_l20Rd_odd, storeAV, setAll, FT.of, elems, List.set_cons_zero, List.set_cons_succ, List.getD_cons_zero, Option.isSome_some, Int.add_assoc, Int.reduceAdd]
    repeat (refine And.intro ?_ ?_; focus (first | exact ordP (by kernel_rfl) | with_reducible exact rfl | trivial | assumption | (simp only [inR]; omega) | omega | exact ⟨hc, by omega, by omega⟩ | exact ⟨_, rfl⟩))
    refine hK7 _ ?_
    clear hK7
    refine W_cond (b := _) rfl (fun hc8 => ?_) (fun hc8 => ?_)
    · try simp only [decide_eq_true_eq, decide_eq_false_iff_not, ne_eq, Decidable.not_not, Bool.not_eq_true', Bool.not_eq_false', Bool.or_eq_true, Bool.and_eq_true, Bool.or_eq_false_iff, Bool.and_eq_false_iff] at hc8
      refine W_region hT hG [] [0, 4, 5] ?_
      rw [hnt]
      simp only [baseS, eq_self, implies_true, if_true, if_false, reduceIte, Nat.reduceBEq, Nat.reduceEqDiff, Nat.reduceLT, Nat.reduceAdd, reduceCtorEq, tyInt, tdInt, tyInts, tdInts, tyHull, tdHull, tyRdP, tdRdP, c_spec_l20Rd_pick, c_spec_l20Rd_odd, storeAV, setAll, FT.of, elems, List.set_cons_zero, List.set_cons_succ, List.getD_cons_zero, Option.isSome_some, Int.add_assoc, Int.reduceAdd]
      repeat (refine And.intro ?_ ?_; focus (first | exact ordP (by kernel_rfl) | with_reducible exact rfl | trivial | assumption | (simp only [inR]; omega) | omega | exact ⟨hc, by omega, by omega⟩ | exact ⟨_, rfl⟩))
      refine hK3 _ ?_
      clear hK3
      refine W_seq (fun K9 hK9 => ?_)
      refine W_region hT hG [] [0, 4] ?_
      rw [hnt]
      simp only [baseS, eq_self, implies_true, if_true, if_false, reduceIte, Nat.reduceBEq, Nat.reduceEqDiff, Nat.reduceLT, Nat.reduceAdd, reduceCtorEq, tyInt, tdInt, tyInts, tdInts, tyHull, tdHull, tyRdP, tdRdP, c_spec_l20Rd_pick, c_spec_l20Rd_odd, storeAV, setAll, FT.of, elems, List.set_cons_zero, List.set_cons_succ, List.getD_cons_zero, Option.isSome_some, Int.add_assoc, Int.reduceAdd]
      repeat (refine And.intro ?_ ?_; focus (first | exact ordP (by kernel_rfl) | with_reducible exact rfl | trivial | assumption | (simp only [inR]; omega) | omega | exact ⟨hc, by omega, by omega⟩ | exact ⟨_, rfl⟩))
      refine hK9 _ ?_
      clear hK9
      refine W_ret ?_
      simp only [thenQ, blockQ, loopQ, retQ, reduceIte, Nat.reduceEqDiff]
      first | (rw [hullV_0 hc5 hc8]; exact retm 0 rfl rfl rfl rfl (.inl rfl) rfl) | (rw [hullV_1 hc5 hc5 hc8]; exact retm 0 rfl rfl rfl rfl (.inl rfl) rfl) | (rw [hullV_2 hc5 hc5 hc8]; exact retm 0 rfl rfl rfl rfl (.inl rfl) rfl) | (rw [hullV_n hc5]; exact retm 0 rfl rfl rfl rfl (.inl rfl) rfl)
    · try simp only [decide_eq_true_eq, decide_eq_false_iff_not, ne_eq, Decidable.not_not, Bool.not_eq_true', Bool.not_eq_false', Bool.or_eq_true, Bool.and_eq_true, Bool.or_eq_false_iff, Bool.and_eq_false_iff] at hc8
      refine W_seq (fun K10 hK10 => ?_)
      refine W_region hT hG [] [0, 4, 5, 35] ?_
      rw [hnt]
      simp only [baseS, eq_self, implies_true, if_true, if_false, reduceIte, Nat.reduceBEq, Nat.reduceEqDiff, Nat.reduceLT, Nat.reduceAdd, reduceCtorEq, tyInt, tdInt, tyInts, tdInts, tyHull, tdHull, tyRdP, tdRdP, c_spec_l20Rd_pick, c_spec_l20Rd_odd, storeAV, setAll, FT.of, elems, List.set_cons_zero, List.set_cons_succ, List.getD_cons_zero, Option.isSome_some, Int.add_assoc, Int.reduceAdd]
      repeat (refine And.intro ?_ ?_; focus (first | exact ordP (by kernel_rfl) | with_reducible exact rfl | trivial | assumption | (simp only [inR]; omega) | omega | exact ⟨hc, by omega, by omega⟩ | exact ⟨_, rfl⟩))
      refine hK10 _ ?_
      clear hK10
      refine W_cond (b := _) rfl (fun hc11 => ?_) (fun hc11 => ?_)
      · try simp only [decide_eq_true_eq, decide_eq_false_iff_not, ne_eq, Decidable.not_not, Bool.not_eq_true', Bool.not_eq_false', Bool.or_eq_true, Bool.and_eq_true, Bool.or_eq_false_iff, Bool.and_eq_false_iff] at hc11
        refine W_region hT hG [] [0, 4, 5] ?_
        rw [hnt]
        simp only [baseS, eq_self, implies_true, if_true, if_false, reduceIte, Nat.reduceBEq, Nat.reduceEqDiff, Nat.reduceLT, Nat.reduceAdd, reduceCtorEq, tyInt, tdInt, tyInts, tdInts, tyHull, tdHull, tyRdP, tdRdP, c_spec_l20Rd_pick, c_spec_l20Rd_odd, storeAV, setAll, FT.of, elems, List.set_cons_zero, List.set_cons_succ, List.getD_cons_zero, Option.isSome_some, Int.add_assoc, Int.reduceAdd]
        repeat (refine And.intro ?_ ?_; focus (first | exact ordP (by kernel_rfl) | with_reducible exact rfl | trivial | assumption | (simp only [inR]; omega) | omega | exact ⟨hc, by omega, by omega⟩ | exact ⟨_, rfl⟩))
        refine hK3 _ ?_
        clear hK3
        refine W_seq (fun K12 hK12 => ?_)
        refine W_region hT hG [] [0, 4] ?_
        rw [hnt]
        simp only [baseS, eq_self, implies_true, if_true, if_false, reduceIte, Nat.reduceBEq, Nat.reduceEqDiff, Nat.reduceLT, Nat.reduceAdd, reduceCtorEq, tyInt, tdInt, tyInts, tdInts, tyHull, tdHull, tyRdP, tdRdP, c_spec_l20Rd_pick, c_spec_l20Rd_odd, storeAV, setAll, FT.of, elems, List.set_cons_zero, List.set_cons_succ, List.getD_cons_zero, Option.isSome_some, Int.add_assoc, Int.reduceAdd]
        repeat (refine And.intro ?_ ?_; focus (first | exact ordP (by kernel_rfl) | with_reducible exact rfl | trivial | assumption | (simp only [inR]; omega) | omega | exact ⟨hc, by omega, by omega⟩ | exact ⟨_, rfl⟩))
        refine hK12 _ ?_
        clear hK12
        refine W_ret ?_
        simp only [thenQ, blockQ, loopQ, retQ, reduceIte, Nat.reduceEqDiff]
        first | (rw [hullV_0 hc5 hc11]; exact retm 0 rfl rfl rfl rfl (.inl rfl) rfl) | (rw [hullV_1 hc5 hc8 hc11]; exact retm 0 rfl rfl rfl rfl (.inl rfl) rfl) | (rw [hullV_2 hc5 hc8 hc11]; exact retm 0 rfl rfl rfl rfl (.inl rfl) rfl) | (rw [hullV_n hc5]; exact retm 0 rfl rfl rfl rfl (.inl rfl) rfl)
      · try simp only [decide_eq_true_eq, decide_eq_false_iff_not, ne_eq, Decidable.not_not, Bool.not_eq_true', Bool.not_eq_false', Bool.or_eq_true, Bool.and_eq_true, Bool.or_eq_false_iff, Bool.and_eq_false_iff] at hc11
        refine W_region hT hG [] [0, 4, 5] ?_
        rw [hnt]
        simp only [baseS, eq_self, implies_true, if_true, if_false, reduceIte, Nat.reduceBEq, Nat.reduceEqDiff, Nat.reduceLT, Nat.reduceAdd, reduceCtorEq, tyInt, tdInt, tyInts, tdInts, tyHull, tdHull, tyRdP, tdRdP, c_spec_l20Rd_pick, c_spec_l20Rd_odd, storeAV, setAll, FT.of, elems, List.set_cons_zero, List.set_cons_succ, List.getD_cons_zero, Option.isSome_some, Int.add_assoc, Int.reduceAdd]
        repeat (refine And.intro ?_ ?_; focus (first | exact ordP (by kernel_rfl) | with_reducible exact rfl | trivial | assumption | (simp only [inR]; omega) | omega | exact ⟨hc, by omega, by omega⟩ | exact ⟨_, rfl⟩))
        refine hK3 _ ?_
        clear hK3
        refine W_seq (fun K13 hK13 => ?_)
        refine W_region hT hG [] [0, 4] ?_
        rw [hnt]
        simp only [baseS, eq_self, implies_true, if_true, if_false, reduceIte, Nat.reduceBEq, Nat.reduceEqDiff, Nat.reduceLT, Nat.reduceAdd, reduceCtorEq, tyInt, tdInt, tyInts, tdInts, tyHull, tdHull, tyRdP, tdRdP, c_spec_l20Rd_pick, c_spec_l20Rd_odd, storeAV, setAll, FT.of, elems, List.set_cons_zero, List.set_cons_succ, List.getD_cons_zero, Option.isSome_some, Int.add_assoc, Int.reduceAdd]
        repeat (refine And.intro ?_ ?_; focus (first | exact ordP (by kernel_rfl) | with_reducible exact rfl | trivial | assumption | (simp only [inR]; omega) | omega | exact ⟨hc, by omega, by omega⟩ | exact ⟨_, rfl⟩))
        refine hK13 _ ?_
        clear hK13
        refine W_ret ?_
        simp only [thenQ, blockQ, loopQ, retQ, reduceIte, Nat.reduceEqDiff]
        first | (rw [hullV_0 hc5 hc11]; exact retm 0 rfl rfl rfl rfl (.inl rfl) rfl) | (rw [hullV_1 hc5 hc8 hc11]; exact retm 0 rfl rfl rfl rfl (.inl rfl) rfl) | (rw [hullV_2 hc5 hc8 hc11]; exact retm 0 rfl rfl rfl rfl (.inl rfl) rfl) | (rw [hullV_n hc5]; exact retm 0 rfl rfl rfl rfl (.inl rfl) rfl)
  · try simp only [decide_eq_true_eq, decide_eq_false_iff_not, ne_eq, Decidable.not_not, Bool.not_eq_true', Bool.not_eq_false', Bool.or_eq_true, Bool.and_eq_true, Bool.or_eq_false_iff, Bool.and_eq_false_iff] at hc5
    refine W_skip ?_
    simp only [thenQ, blockQ, loopQ, reduceIte, Nat.reduceEqDiff]
    refine hK3 _ ?_
    clear hK3
    refine W_seq (fun K14 hK14 => ?_)
    refine W_region hT hG [] [0, 4] ?_
    rw [hnt]
    simp only [baseS, eq_self, implies_true, if_true, if_false, reduceIte, Nat.reduceBEq, Nat.reduceEqDiff, Nat.reduceLT, Nat.reduceAdd, reduceCtorEq, tyInt, tdInt, tyInts, tdInts, tyHull, tdHull, tyRdP, tdRdP, c_spec_l20Rd_pick, c_spec_l20Rd_odd, storeAV, setAll, FT.of, elems, List.set_cons_zero, List.set_cons_succ, List.getD_cons_zero, Option.isSome_some, Int.add_assoc, Int.reduceAdd]
    repeat (refine And.intro ?_ ?_; focus (first | exact ordP (by kernel_rfl) | with_reducible exact rfl | trivial | assumption | (simp only [inR]; omega) | omega | exact ⟨hc, by omega, by omega⟩ | exact ⟨_, rfl⟩))
    refine hK14 _ ?_
    clear hK14
    refine W_ret ?_
    simp only [thenQ, blockQ, loopQ, retQ, reduceIte, Nat.reduceEqDiff]
    first | (rw [hullV_0 hc5 hc5]; exact retm 0 rfl rfl rfl rfl (.inl rfl) rfl) | (rw [hullV_1 hc5 HCPREV hc5]; exact retm 0 rfl rfl rfl rfl (.inl rfl) rfl) | (rw [hullV_2 hc5 HCPREV hc5]; exact retm 0 rfl rfl rfl rfl (.inl rfl) rfl) | (rw [hullV_n hc5]; exact retm 0 rfl rfl rfl rfl (.inl rfl) rfl)

def c_spec_l20PlanZR : List AV → List Own → Option (Prop × (CRes → Prop)) := fun xs os => match xs, os with
    | [.int m, .int n], [.var [.rs .u8 b, .int p]] => some (codeOK b ∧ (0 ≤ p ∧ p ≤ 10000) ∧ (0 ≤ m ∧ m ≤ 10) ∧ (0 ≤ n ∧ n ≤ 100), fun R => ∃ (y1 : Int) (y2 : Int) (y3 : Int) (bs : List BoxD) (pl : List Int) (q : Int), R = ⟨True, .tup [.agg [.int y1, .int y2, .int y3], .sl 0, .rs .i64 pl], [.sl 81 .box bs], [.var [.rs .u8 b, .int q]]⟩ ∧ (bs.length ≤ 12 ∧ pl.length ≤ 37 ∧ (p ≤ q ∧ q ≤ p + 200) ∧ (n = 0 → planB y1 y2 y3 bs pl = true)))
    | _, _ => none
def c_spec_l20PlanZ : Ctr := ⟨[.m, .v .p, .v .p], true, fun _ _ => none, some c_spec_l20PlanZR⟩
set_option maxRecDepth 20000 in
set_option maxHeartbeats 2000000 in
theorem m_spec_l20PlanZ : Meets Try.prog 80 c_spec_l20PlanZ := by
  refine meetsR_of (T := tyT) tyOK Try.func80 (by rfl) rfl (by decide) ?_
  intro args owns pre S hrun hpre
  simp only [c_spec_l20PlanZR] at hrun
  split at hrun
  case h_2 => cases hrun
  rename_i m n b p
  cases hrun
  try dsimp only at hpre
  refine ⟨⟨[(0, .op 0 0), (1, .int m), (2, .int n)], [(0, some (.var [.rs .u8 b, .int p]))], 95⟩, rfl, fun E hP hnt hnp => ?_⟩
  replace hnt : E.nt = 95 := hnt
  replace hnp : E.np = 3 := hnp
  have hT : ∀ t d, tyT t = some d → TyOK E.P t d := hP ▸ tyOK
  have hG : ∀ f C, Γof [(59, c_spec_l20Rd_pick), (60, c_spec_l20Rd_odd), (117, c_spec_l20HullZ), (118, c_spec_l20BoxesZ), (119, c_spec_PlanEmpty), (120, c_spec_PlanNext), (121, c_spec_PlanPut)] f = some C → Meets E.P f C := hΓof (by rw [hP]; exact ⟨m_spec_l20Rd_pick, m_spec_l20Rd_odd, m_spec_l20HullZ, m_spec_l20BoxesZ, m_spec_PlanEmpty, m_spec_PlanNext, m_spec_PlanPut, trivial⟩)
  try simp only [show Try.f80.ntmps = 95 from rfl]
  have hc := hpre.1
  have hp := hpre.2.1
  have hm := hpre.2.2.1
  have hn := hpre.2.2.2
  have hhp := hullV_p b p (3 * n)
  have hel := empty_len (hullV b p (3 * n)).1 (hullV b p (3 * n)).2.1 (hullV b p (3 * n)).2.2.1
  have hhv := fun h => hull_ok (b := b) (p := p) (n := 3 * n) h
  have hz0 : n = 0 → ∀ q, oddB b q (3 * n) = false := fun h q => by rw [h]; exact oddB_0 _ _
  refine W_seq (fun K1 hK1 => ?_)
  refine W_region hT hG [] [0, 1, 2, 6] ?_
  rw [hnt]
  simp only [baseS, eq_self, implies_true, if_true, if_false, reduceIte, Nat.reduceBEq, Nat.reduceEqDiff, Nat.reduceLT, Nat.reduceAdd, reduceCtorEq, relC, callOK0, callOK1, fzE, c_spec_l20BoxesZR, tyInt, tdInt, tyInts, tdInts, tyHull, tdHull, tyBoxes, tdBoxes, tyRdP, tdRdP, tyBox, tdBox, c_spec_l20Rd_pick, c_spec_l20Rd_odd, c_spec_l20HullZ, c_spec_l20BoxesZ, c_spec_PlanEmpty, c_spec_PlanNext, c_spec_PlanPut, storeAV, setAll, FT.of, FT.setf, List.set_cons_zero, List.set_cons_succ, Option.isSome_some, Int.add_assoc, Int.reduceAdd, rowsAV, appAV, srcRows, srcFlat, reduceDIte, room, List.length_append, Nat.reduceLeDiff, elems, Int.mul_assoc]
  repeat (refine And.intro ?_ ?_; focus (first | exact ordP (by kernel_rfl) | with_reducible exact rfl | trivial | assumption | (simp only [inR]; omega) | omega | exact ⟨hc, by omega, by omega⟩ | exact ⟨hc, by omega, by omega, by omega⟩ | exact ⟨_, rfl⟩ | exact ⟨by omega, by omega⟩ | (simp only [List.length_append, List.length_cons, List.length_nil, room]; omega)))
  refine hK1 _ ?_
  clear hK1
  refine W_seq (fun K2 hK2 => ?_)
  refine W_region hT hG [] [0, 1, 2, 6, 9] ?_
  rw [hnt]
  simp only [baseS, eq_self, implies_true, if_true, if_false, reduceIte, Nat.reduceBEq, Nat.reduceEqDiff, Nat.reduceLT, Nat.reduceAdd, reduceCtorEq, relC, callOK0, callOK1, fzE, c_spec_l20BoxesZR, tyInt, tdInt, tyInts, tdInts, tyHull, tdHull, tyBoxes, tdBoxes, tyRdP, tdRdP, tyBox, tdBox, c_spec_l20Rd_pick, c_spec_l20Rd_odd, c_spec_l20HullZ, c_spec_l20BoxesZ, c_spec_PlanEmpty, c_spec_PlanNext, c_spec_PlanPut, storeAV, setAll, FT.of, FT.setf, List.set_cons_zero, List.set_cons_succ, Option.isSome_some, Int.add_assoc, Int.reduceAdd, rowsAV, appAV, srcRows, srcFlat, reduceDIte, room, List.length_append, Nat.reduceLeDiff, elems, Int.mul_assoc]
  repeat (refine And.intro ?_ ?_; focus (first | exact ordP (by kernel_rfl) | with_reducible exact rfl | trivial | assumption | (simp only [inR]; omega) | omega | exact ⟨hc, by omega, by omega⟩ | exact ⟨hc, by omega, by omega, by omega⟩ | exact ⟨_, rfl⟩ | exact ⟨by omega, by omega⟩ | (simp only [List.length_append, List.length_cons, List.length_nil, room]; omega)))
  refine hK2 _ ?_
  clear hK2
  refine W_seq (fun K3 hK3 => ?_)
  refine W_region hT hG [] [0, 2, 6, 9, 10] ?_
  rw [hnt]
  simp only [baseS, eq_self, implies_true, if_true, if_false, reduceIte, Nat.reduceBEq, Nat.reduceEqDiff, Nat.reduceLT, Nat.reduceAdd, reduceCtorEq, relC, callOK0, callOK1, fzE, c_spec_l20BoxesZR, tyInt, tdInt, tyInts, tdInts, tyHull, tdHull, tyBoxes, tdBoxes, tyRdP, tdRdP, tyBox, tdBox, c_spec_l20Rd_pick, c_spec_l20Rd_odd, c_spec_l20HullZ, c_spec_l20BoxesZ, c_spec_PlanEmpty, c_spec_PlanNext, c_spec_PlanPut, storeAV, setAll, FT.of, FT.setf, List.set_cons_zero, List.set_cons_succ, Option.isSome_some, Int.add_assoc, Int.reduceAdd, rowsAV, appAV, srcRows, srcFlat, reduceDIte, room, List.length_append, Nat.reduceLeDiff, elems, Int.mul_assoc]
  repeat (refine And.intro ?_ ?_; focus (first | exact ordP (by kernel_rfl) | with_reducible exact rfl | trivial | assumption | (simp only [inR]; omega) | omega | exact ⟨hc, by omega, by omega⟩ | exact ⟨hc, by omega, by omega, by omega⟩ | exact ⟨_, rfl⟩ | exact ⟨by omega, by omega⟩ | (simp only [List.length_append, List.length_cons, List.length_nil, room]; omega)))
  rintro _ ⟨bs, q0, rfl, hbl, hq0, hbo⟩
  have hbl2 : bs.length ≤ 9223372036854775807 := by omega
  simp only [baseS, eq_self, implies_true, if_true, if_false, reduceIte, Nat.reduceBEq, Nat.reduceEqDiff, Nat.reduceLT, Nat.reduceAdd, reduceCtorEq, relC, callOK0, callOK1, fzE, c_spec_l20BoxesZR, tyInt, tdInt, tyInts, tdInts, tyHull, tdHull, tyBoxes, tdBoxes, tyRdP, tdRdP, tyBox, tdBox, c_spec_l20Rd_pick, c_spec_l20Rd_odd, c_spec_l20HullZ, c_spec_l20BoxesZ, c_spec_PlanEmpty, c_spec_PlanNext, c_spec_PlanPut, storeAV, setAll, FT.of, FT.setf, List.set_cons_zero, List.set_cons_succ, Option.isSome_some, Int.add_assoc, Int.reduceAdd, rowsAV, appAV, srcRows, srcFlat, reduceDIte, room, List.length_append, Nat.reduceLeDiff, elems, Int.mul_assoc]
  repeat (refine And.intro ?_ ?_; focus (first | exact ordP (by kernel_rfl) | with_reducible exact rfl | trivial | assumption | (simp only [inR]; omega) | omega | exact ⟨hc, by omega, by omega⟩ | exact ⟨hc, by omega, by omega, by omega⟩ | exact ⟨_, rfl⟩ | exact ⟨by omega, by omega⟩ | (simp only [List.length_append, List.length_cons, List.length_nil, room]; omega)))
  refine hK3 _ ?_
  clear hK3
  refine W_seq (fun K4 hK4 => ?_)
  refine W_region hT hG [] [0, 2, 6, 9, 10, 11] ?_
  rw [hnt]
  simp only [baseS, eq_self, implies_true, if_true, if_false, reduceIte, Nat.reduceBEq, Nat.reduceEqDiff, Nat.reduceLT, Nat.reduceAdd, reduceCtorEq, relC, callOK0, callOK1, fzE, c_spec_l20BoxesZR, tyInt, tdInt, tyInts, tdInts, tyHull, tdHull, tyBoxes, tdBoxes, tyRdP, tdRdP, tyBox, tdBox, c_spec_l20Rd_pick, c_spec_l20Rd_odd, c_spec_l20HullZ, c_spec_l20BoxesZ, c_spec_PlanEmpty, c_spec_PlanNext, c_spec_PlanPut, storeAV, setAll, FT.of, FT.setf, List.set_cons_zero, List.set_cons_succ, Option.isSome_some, Int.add_assoc, Int.reduceAdd, rowsAV, appAV, srcRows, srcFlat, reduceDIte, room, List.length_append, Nat.reduceLeDiff, elems, Int.mul_assoc]
  repeat (refine And.intro ?_ ?_; focus (first | exact ordP (by kernel_rfl) | with_reducible exact rfl | trivial | assumption | (simp only [inR]; omega) | omega | exact ⟨hc, by omega, by omega⟩ | exact ⟨hc, by omega, by omega, by omega⟩ | exact ⟨_, rfl⟩ | exact ⟨by omega, by omega⟩ | (simp only [List.length_append, List.length_cons, List.length_nil, room]; omega)))
  refine hK4 _ ?_
  clear hK4
  refine W_seq (fun K5 hK5 => ?_)
  refine W_seq (fun K6 hK6 => ?_)
  refine W_region hT hG [] [0, 2, 6, 9, 10, 11, 12] ?_
  rw [hnt]
  simp only [baseS, eq_self, implies_true, if_true, if_false, reduceIte, Nat.reduceBEq, Nat.reduceEqDiff, Nat.reduceLT, Nat.reduceAdd, reduceCtorEq, relC, callOK0, callOK1, fzE, c_spec_l20BoxesZR, tyInt, tdInt, tyInts, tdInts, tyHull, tdHull, tyBoxes, tdBoxes, tyRdP, tdRdP, tyBox, tdBox, c_spec_l20Rd_pick, c_spec_l20Rd_odd, c_spec_l20HullZ, c_spec_l20BoxesZ, c_spec_PlanEmpty, c_spec_PlanNext, c_spec_PlanPut, storeAV, setAll, FT.of, FT.setf, List.set_cons_zero, List.set_cons_succ, Option.isSome_some, Int.add_assoc, Int.reduceAdd, rowsAV, appAV, srcRows, srcFlat, reduceDIte, room, List.length_append, Nat.reduceLeDiff, elems, Int.mul_assoc]
  repeat (refine And.intro ?_ ?_; focus (first | exact ordP (by kernel_rfl) | with_reducible exact rfl | trivial | assumption | (simp only [inR]; omega) | omega | exact ⟨hc, by omega, by omega⟩ | exact ⟨hc, by omega, by omega, by omega⟩ | exact ⟨_, rfl⟩ | exact ⟨by omega, by omega⟩ | (simp only [List.length_append, List.length_cons, List.length_nil, room]; omega)))
  refine hK6 _ ?_
  clear hK6
  refine W_block ?_
  refine W_loop (α := Int × List Int × Int) [(0, .var), (2, .as), (6, .var), (9, .var), (10, .own 81 .box), (11, .own 3 .i64), (12, .as)] (fun x => ⟨[(0, .op 0 0), (2, .int n), (6, .op 6 0), (9, .op 9 0), (10, .sl 10), (11, .sl 11), (12, .int x.1)], [(0, some (.var [.rs .u8 b, .int (x.2.2)])), (6, some (.var [.int 0, .int 0, .int 0])), (9, some (.var [.int (hullV b p (3 * n)).1, .int (hullV b p (3 * n)).2.1, .int (hullV b p (3 * n)).2.2.1])), (10, some (.sl 81 .box bs)), (11, some (.sl 3 .i64 x.2.1))], 95⟩) (fun x => (0 ≤ x.1 ∧ x.1 ≤ bs.length) ∧ x.2.1.length ≤ 36 ∧ (q0 ≤ x.2.2 ∧ x.2.2 ≤ q0 + 2 * x.1) ∧ (n = 0 → planB (hullV b p (3 * n)).1 (hullV b p (3 * n)).2.1 (hullV b p (3 * n)).2.2.1 bs x.2.1 = true)) (fun x => (bs.length - x.1).toNat) (0, emptyR (hullV b p (3 * n)).1 (hullV b p (3 * n)).2.1 (hullV b p (3 * n)).2.2.1, q0) ?_ ?_ ?_
  · (try simp only [hnt, hnp]); rfl
  · exact ⟨by dsimp only; omega, by dsimp only; omega, by dsimp only; omega, fun hz => empty_ok (hhv (by omega)) (hbo (by omega))⟩
  rintro ⟨k, pl, q⟩ ⟨hk, hpl, hq, hpv⟩
  dsimp only at hk hpl hq hpv ⊢
  have hpl2 : pl.length ≤ 9223372036854775807 := by omega
  have hnl := nextR_len (hullV b p (3 * n)).1 (hullV b p (3 * n)).2.1 (hullV b p (3 * n)).2.2.1 bs pl
  have hput := putR_le (hullV b p (3 * n)).1 (hullV b p (3 * n)).2.1 (hullV b p (3 * n)).2.2.1 bs pl
  refine W_seq (fun K8 hK8 => ?_)
  refine W_seq (fun K9 hK9 => ?_)
  refine W_region hT hG [] [0, 2, 6, 9, 10, 11, 12, 30] ?_
  rw [hnt]
  simp only [baseS, eq_self, implies_true, if_true, if_false, reduceIte, Nat.reduceBEq, Nat.reduceEqDiff, Nat.reduceLT, Nat.reduceAdd, reduceCtorEq, relC, callOK0, callOK1, fzE, c_spec_l20BoxesZR, tyInt, tdInt, tyInts, tdInts, tyHull, tdHull, tyBoxes, tdBoxes, tyRdP, tdRdP, tyBox, tdBox, c_spec_l20Rd_pick, c_spec_l20Rd_odd, c_spec_l20HullZ, c_spec_l20BoxesZ, c_spec_PlanEmpty, c_spec_PlanNext, c_spec_PlanPut, storeAV, setAll, FT.of, FT.setf, List.set_cons_zero, List.set_cons_succ, Option.isSome_some, Int.add_assoc, Int.reduceAdd, rowsAV, appAV, srcRows, srcFlat, reduceDIte, room, List.length_append, Nat.reduceLeDiff, elems, Int.mul_assoc]
  repeat (refine And.intro ?_ ?_; focus (first | exact ordP (by kernel_rfl) | with_reducible exact rfl | trivial | assumption | (simp only [inR]; omega) | omega | exact ⟨hc, by omega, by omega⟩ | exact ⟨hc, by omega, by omega, by omega⟩ | exact ⟨_, rfl⟩ | exact ⟨by omega, by omega⟩ | (simp only [List.length_append, List.length_cons, List.length_nil, room]; omega)))
  refine hK9 _ ?_
  clear hK9
  refine W_cond (b := _) rfl (fun hc10 => ?_) (fun hc10 => ?_)
  · try simp only [decide_eq_true_eq, decide_eq_false_iff_not, ne_eq, Decidable.not_not, Bool.not_eq_true', Bool.not_eq_false', Bool.or_eq_true, Bool.and_eq_true, Bool.or_eq_false_iff, Bool.and_eq_false_iff] at hc10
    refine W_skip ?_
    simp only [thenQ, blockQ, loopQ, reduceIte, Nat.reduceEqDiff]
    refine hK8 _ ?_
    clear hK8
    refine W_seq (fun K11 hK11 => ?_)
    refine W_block ?_
    refine W_seq (fun K12 hK12 => ?_)
    refine W_region hT hG [] [0, 2, 6, 9, 10, 11, 12, 13] ?_
    rw [hnt]
    simp only [baseS, eq_self, implies_true, if_true, if_false, reduceIte, Nat.reduceBEq, Nat.reduceEqDiff, Nat.reduceLT, Nat.reduceAdd, reduceCtorEq, relC, callOK0, callOK1, fzE, c_spec_l20BoxesZR, tyInt, tdInt, tyInts, tdInts, tyHull, tdHull, tyBoxes, tdBoxes, tyRdP, tdRdP, tyBox, tdBox, c_spec_l20Rd_pick, c_spec_l20Rd_odd, c_spec_l20HullZ, c_spec_l20BoxesZ, c_spec_PlanEmpty, c_spec_PlanNext, c_spec_PlanPut, storeAV, setAll, FT.of, FT.setf, List.set_cons_zero, List.set_cons_succ, Option.isSome_some, Int.add_assoc, Int.reduceAdd, rowsAV, appAV, srcRows, srcFlat, reduceDIte, room, List.length_append, Nat.reduceLeDiff, elems, Int.mul_assoc]
    repeat (refine And.intro ?_ ?_; focus (first | exact ordP (by kernel_rfl) | with_reducible exact rfl | trivial | assumption | (simp only [inR]; omega) | omega | exact ⟨hc, by omega, by omega⟩ | exact ⟨hc, by omega, by omega, by omega⟩ | exact ⟨_, rfl⟩ | exact ⟨by omega, by omega⟩ | (simp only [List.length_append, List.length_cons, List.length_nil, room]; omega)))
    refine hK12 _ ?_
    clear hK12
    refine W_seq (fun K13 hK13 => ?_)
    by_cases hs14 : (0 : Int) < ((nextR (hullV b p (3 * n)).1 (hullV b p (3 * n)).2.1 (hullV b p (3 * n)).2.2.1 bs pl).length : Int)
    · skip
      refine W_region hT hG [100041, 100042, 100043] [0, 2, 6, 9, 10, 11, 12, 13, 44] ?_
      rw [hnt]
      simp only [baseS, eq_self, implies_true, if_true, if_false, reduceIte, Nat.reduceBEq, Nat.reduceEqDiff, Nat.reduceLT, Nat.reduceAdd, reduceCtorEq, relC, callOK0, callOK1, fzE, c_spec_l20BoxesZR, tyInt, tdInt, tyInts, tdInts, tyHull, tdHull, tyBoxes, tdBoxes, tyRdP, tdRdP, tyBox, tdBox, c_spec_l20Rd_pick, c_spec_l20Rd_odd, c_spec_l20HullZ, c_spec_l20BoxesZ, c_spec_PlanEmpty, c_spec_PlanNext, c_spec_PlanPut, storeAV, setAll, FT.of, FT.setf, List.set_cons_zero, List.set_cons_succ, Option.isSome_some, Int.add_assoc, Int.reduceAdd, rowsAV, appAV, srcRows, srcFlat, reduceDIte, room, List.length_append, Nat.reduceLeDiff, elems, Int.mul_assoc, decide_eq_true hs14]
      repeat (refine And.intro ?_ ?_; focus (first | exact ordP (by kernel_rfl) | with_reducible exact rfl | trivial | assumption | (simp only [inR]; omega) | omega | exact ⟨hc, by omega, by omega⟩ | exact ⟨hc, by omega, by omega, by omega⟩ | exact ⟨_, rfl⟩ | exact ⟨by omega, by omega⟩ | (simp only [List.length_append, List.length_cons, List.length_nil, room]; omega)))
      refine hK13 _ ?_
      clear hK13
      refine W_cond (b := _) rfl (fun hc15 => ?_) (fun hc15 => ?_)
      · try simp only [decide_eq_true_eq, decide_eq_false_iff_not, ne_eq, Decidable.not_not, Bool.not_eq_true', Bool.not_eq_false', Bool.or_eq_true, Bool.and_eq_true, Bool.or_eq_false_iff, Bool.and_eq_false_iff] at hc15
        refine W_seq (fun K16 hK16 => ?_)
        refine W_region_draw hT hG (by rw [hP]; exact draws_ok) [] [0, 2, 6, 9, 10, 11, 12, 14, 15] ?_
        rw [hnt]
        have hpk := pick_box (b := b) (p := q + 1) (n := ((nextR (hullV b p (3 * n)).1 (hullV b p (3 * n)).2.1 (hullV b p (3 * n)).2.2.1 bs pl).length : Int)) (by omega)
        simp only [baseS, eq_self, implies_true, if_true, if_false, reduceIte, Nat.reduceBEq, Nat.reduceEqDiff, Nat.reduceLT, Nat.reduceAdd, reduceCtorEq, relC, callOK0, callOK1, fzE, c_spec_l20BoxesZR, tyInt, tdInt, tyInts, tdInts, tyHull, tdHull, tyBoxes, tdBoxes, tyRdP, tdRdP, tyBox, tdBox, c_spec_l20Rd_pick, c_spec_l20Rd_odd, c_spec_l20HullZ, c_spec_l20BoxesZ, c_spec_PlanEmpty, c_spec_PlanNext, c_spec_PlanPut, storeAV, setAll, FT.of, FT.setf, List.set_cons_zero, List.set_cons_succ, Option.isSome_some, Int.add_assoc, Int.reduceAdd, rowsAV, appAV, srcRows, srcFlat, reduceDIte, room, List.length_append, Nat.reduceLeDiff, elems, Int.mul_assoc]
        repeat (refine And.intro ?_ ?_; focus (first | exact ordP (by kernel_rfl) | with_reducible exact rfl | trivial | assumption | (simp only [inR]; omega) | omega | exact ⟨hc, by omega, by omega⟩ | exact ⟨hc, by omega, by omega, by omega⟩ | exact ⟨_, rfl⟩ | exact ⟨by omega, by omega⟩ | (simp only [List.length_append, List.length_cons, List.length_nil, room]; omega)))
        refine hK16 _ ?_
        clear hK16
        refine W_seq (fun K17 hK17 => ?_)
        refine W_region hT hG [] [0, 2, 6, 9, 10, 11, 12, 14, 64] ?_
        rw [hnt]
        simp only [baseS, eq_self, implies_true, if_true, if_false, reduceIte, Nat.reduceBEq, Nat.reduceEqDiff, Nat.reduceLT, Nat.reduceAdd, reduceCtorEq, relC, callOK0, callOK1, fzE, c_spec_l20BoxesZR, tyInt, tdInt, tyInts, tdInts, tyHull, tdHull, tyBoxes, tdBoxes, tyRdP, tdRdP, tyBox, tdBox, c_spec_l20Rd_pick, c_spec_l20Rd_odd, c_spec_l20HullZ, c_spec_l20BoxesZ, c_spec_PlanEmpty, c_spec_PlanNext, c_spec_PlanPut, storeAV, setAll, FT.of, FT.setf, List.set_cons_zero, List.set_cons_succ, Option.isSome_some, Int.add_assoc, Int.reduceAdd, rowsAV, appAV, srcRows, srcFlat, reduceDIte, room, List.length_append, Nat.reduceLeDiff, elems, Int.mul_assoc]
        repeat (refine And.intro ?_ ?_; focus (first | exact ordP (by kernel_rfl) | with_reducible exact rfl | trivial | assumption | (simp only [inR]; omega) | omega | exact ⟨hc, by omega, by omega⟩ | exact ⟨hc, by omega, by omega, by omega⟩ | exact ⟨_, rfl⟩ | exact ⟨by omega, by omega⟩ | (simp only [List.length_append, List.length_cons, List.length_nil, room]; omega)))
        refine hK17 _ ?_
        clear hK17
        refine W_cond (b := _) rfl (fun hc18 => ?_) (fun hc18 => ?_)
        · try simp only [decide_eq_true_eq, decide_eq_false_iff_not, ne_eq, Decidable.not_not, Bool.not_eq_true', Bool.not_eq_false', Bool.or_eq_true, Bool.and_eq_true, Bool.or_eq_false_iff, Bool.and_eq_false_iff] at hc18
          refine W_region hT hG [] [0, 2, 6, 9, 10, 11, 12] ?_
          rw [hnt]
          simp only [baseS, eq_self, implies_true, if_true, if_false, reduceIte, Nat.reduceBEq, Nat.reduceEqDiff, Nat.reduceLT, Nat.reduceAdd, reduceCtorEq, relC, callOK0, callOK1, fzE, c_spec_l20BoxesZR, tyInt, tdInt, tyInts, tdInts, tyHull, tdHull, tyBoxes, tdBoxes, tyRdP, tdRdP, tyBox, tdBox, c_spec_l20Rd_pick, c_spec_l20Rd_odd, c_spec_l20HullZ, c_spec_l20BoxesZ, c_spec_PlanEmpty, c_spec_PlanNext, c_spec_PlanPut, storeAV, setAll, FT.of, FT.setf, List.set_cons_zero, List.set_cons_succ, Option.isSome_some, Int.add_assoc, Int.reduceAdd, rowsAV, appAV, srcRows, srcFlat, reduceDIte, room, List.length_append, Nat.reduceLeDiff, elems, Int.mul_assoc]
          repeat (refine And.intro ?_ ?_; focus (first | exact ordP (by kernel_rfl) | with_reducible exact rfl | trivial | assumption | (simp only [inR]; omega) | omega | exact ⟨hc, by omega, by omega⟩ | exact ⟨hc, by omega, by omega, by omega⟩ | exact ⟨_, rfl⟩ | exact ⟨by omega, by omega⟩ | (simp only [List.length_append, List.length_cons, List.length_nil, room]; omega)))
          refine hK11 _ ?_
          clear hK11
          refine W_region hT hG [] [0, 2, 6, 9, 10, 11, 12] ?_
          rw [hnt]
          simp only [baseS, eq_self, implies_true, if_true, if_false, reduceIte, Nat.reduceBEq, Nat.reduceEqDiff, Nat.reduceLT, Nat.reduceAdd, reduceCtorEq, relC, callOK0, callOK1, fzE, c_spec_l20BoxesZR, tyInt, tdInt, tyInts, tdInts, tyHull, tdHull, tyBoxes, tdBoxes, tyRdP, tdRdP, tyBox, tdBox, c_spec_l20Rd_pick, c_spec_l20Rd_odd, c_spec_l20HullZ, c_spec_l20BoxesZ, c_spec_PlanEmpty, c_spec_PlanNext, c_spec_PlanPut, storeAV, setAll, FT.of, FT.setf, List.set_cons_zero, List.set_cons_succ, Option.isSome_some, Int.add_assoc, Int.reduceAdd, rowsAV, appAV, srcRows, srcFlat, reduceDIte, room, List.length_append, Nat.reduceLeDiff, elems, Int.mul_assoc]
          repeat (refine And.intro ?_ ?_; focus (first | exact ordP (by kernel_rfl) | with_reducible exact rfl | trivial | assumption | (simp only [inR]; omega) | omega | exact ⟨hc, by omega, by omega⟩ | exact ⟨hc, by omega, by omega, by omega⟩ | exact ⟨_, rfl⟩ | exact ⟨by omega, by omega⟩ | (simp only [List.length_append, List.length_cons, List.length_nil, room]; omega)))
          first
          | (refine ⟨(k + 1, pl, q), (by (try simp only [hnt, hnp]); rfl), ⟨by dsimp only; omega, by dsimp only; omega, by dsimp only; omega, hpv⟩, by dsimp only; omega⟩)
          | (refine ⟨(k + 1, pl, q + 1), (by (try simp only [hnt, hnp]); rfl), ⟨by dsimp only; omega, by dsimp only; omega, by dsimp only; omega, hpv⟩, by dsimp only; omega⟩)
          | (refine ⟨(k + 1, pl, q + 2), (by (try simp only [hnt, hnp]); rfl), ⟨by dsimp only; omega, by dsimp only; omega, by dsimp only; omega, hpv⟩, by dsimp only; omega⟩)
          | (refine ⟨(k + 1, (putR _ _ _ _ _ _ _).1, q + 2), (by (try simp only [hnt, hnp]); rfl), ⟨by dsimp only; omega, by dsimp only; exact Nat.le_trans (hput _ _) hpl, by dsimp only; omega, fun hz => put_valid (hpv hz)⟩, by dsimp only; omega⟩)
        · try simp only [decide_eq_true_eq, decide_eq_false_iff_not, ne_eq, Decidable.not_not, Bool.not_eq_true', Bool.not_eq_false', Bool.or_eq_true, Bool.and_eq_true, Bool.or_eq_false_iff, Bool.and_eq_false_iff] at hc18
          refine W_skip ?_
          simp only [thenQ, blockQ, loopQ, reduceIte, Nat.reduceEqDiff]
          refine hK11 _ ?_
          clear hK11
          refine W_region hT hG [] [0, 2, 6, 9, 10, 11, 12] ?_
          rw [hnt]
          simp only [baseS, eq_self, implies_true, if_true, if_false, reduceIte, Nat.reduceBEq, Nat.reduceEqDiff, Nat.reduceLT, Nat.reduceAdd, reduceCtorEq, relC, callOK0, callOK1, fzE, c_spec_l20BoxesZR, tyInt, tdInt, tyInts, tdInts, tyHull, tdHull, tyBoxes, tdBoxes, tyRdP, tdRdP, tyBox, tdBox, c_spec_l20Rd_pick, c_spec_l20Rd_odd, c_spec_l20HullZ, c_spec_l20BoxesZ, c_spec_PlanEmpty, c_spec_PlanNext, c_spec_PlanPut, storeAV, setAll, FT.of, FT.setf, List.set_cons_zero, List.set_cons_succ, Option.isSome_some, Int.add_assoc, Int.reduceAdd, rowsAV, appAV, srcRows, srcFlat, reduceDIte, room, List.length_append, Nat.reduceLeDiff, elems, Int.mul_assoc]
          repeat (refine And.intro ?_ ?_; focus (first | exact ordP (by kernel_rfl) | with_reducible exact rfl | trivial | assumption | (simp only [inR]; omega) | omega | exact ⟨hc, by omega, by omega⟩ | exact ⟨hc, by omega, by omega, by omega⟩ | exact ⟨_, rfl⟩ | exact ⟨by omega, by omega⟩ | (simp only [List.length_append, List.length_cons, List.length_nil, room]; omega)))
          first
          | (refine ⟨(k + 1, pl, q), (by (try simp only [hnt, hnp]); rfl), ⟨by dsimp only; omega, by dsimp only; omega, by dsimp only; omega, hpv⟩, by dsimp only; omega⟩)
          | (refine ⟨(k + 1, pl, q + 1), (by (try simp only [hnt, hnp]); rfl), ⟨by dsimp only; omega, by dsimp only; omega, by dsimp only; omega, hpv⟩, by dsimp only; omega⟩)
          | (refine ⟨(k + 1, pl, q + 2), (by (try simp only [hnt, hnp]); rfl), ⟨by dsimp only; omega, by dsimp only; omega, by dsimp only; omega, hpv⟩, by dsimp only; omega⟩)
          | (refine ⟨(k + 1, (putR _ _ _ _ _ _ _).1, q + 2), (by (try simp only [hnt, hnp]); rfl), ⟨by dsimp only; omega, by dsimp only; exact Nat.le_trans (hput _ _) hpl, by dsimp only; omega, fun hz => put_valid (hpv hz)⟩, by dsimp only; omega⟩)
      · try simp only [decide_eq_true_eq, decide_eq_false_iff_not, ne_eq, Decidable.not_not, Bool.not_eq_true', Bool.not_eq_false', Bool.or_eq_true, Bool.and_eq_true, Bool.or_eq_false_iff, Bool.and_eq_false_iff] at hc15
        refine W_skip ?_
        simp only [thenQ, blockQ, loopQ, reduceIte, Nat.reduceEqDiff]
        refine hK11 _ ?_
        clear hK11
        refine W_region hT hG [] [0, 2, 6, 9, 10, 11, 12] ?_
        rw [hnt]
        simp only [baseS, eq_self, implies_true, if_true, if_false, reduceIte, Nat.reduceBEq, Nat.reduceEqDiff, Nat.reduceLT, Nat.reduceAdd, reduceCtorEq, relC, callOK0, callOK1, fzE, c_spec_l20BoxesZR, tyInt, tdInt, tyInts, tdInts, tyHull, tdHull, tyBoxes, tdBoxes, tyRdP, tdRdP, tyBox, tdBox, c_spec_l20Rd_pick, c_spec_l20Rd_odd, c_spec_l20HullZ, c_spec_l20BoxesZ, c_spec_PlanEmpty, c_spec_PlanNext, c_spec_PlanPut, storeAV, setAll, FT.of, FT.setf, List.set_cons_zero, List.set_cons_succ, Option.isSome_some, Int.add_assoc, Int.reduceAdd, rowsAV, appAV, srcRows, srcFlat, reduceDIte, room, List.length_append, Nat.reduceLeDiff, elems, Int.mul_assoc]
        repeat (refine And.intro ?_ ?_; focus (first | exact ordP (by kernel_rfl) | with_reducible exact rfl | trivial | assumption | (simp only [inR]; omega) | omega | exact ⟨hc, by omega, by omega⟩ | exact ⟨hc, by omega, by omega, by omega⟩ | exact ⟨_, rfl⟩ | exact ⟨by omega, by omega⟩ | (simp only [List.length_append, List.length_cons, List.length_nil, room]; omega)))
        first
        | (refine ⟨(k + 1, pl, q), (by (try simp only [hnt, hnp]); rfl), ⟨by dsimp only; omega, by dsimp only; omega, by dsimp only; omega, hpv⟩, by dsimp only; omega⟩)
        | (refine ⟨(k + 1, pl, q + 1), (by (try simp only [hnt, hnp]); rfl), ⟨by dsimp only; omega, by dsimp only; omega, by dsimp only; omega, hpv⟩, by dsimp only; omega⟩)
        | (refine ⟨(k + 1, pl, q + 2), (by (try simp only [hnt, hnp]); rfl), ⟨by dsimp only; omega, by dsimp only; omega, by dsimp only; omega, hpv⟩, by dsimp only; omega⟩)
        | (refine ⟨(k + 1, (putR _ _ _ _ _ _ _).1, q + 2), (by (try simp only [hnt, hnp]); rfl), ⟨by dsimp only; omega, by dsimp only; exact Nat.le_trans (hput _ _) hpl, by dsimp only; omega, fun hz => put_valid (hpv hz)⟩, by dsimp only; omega⟩)
    · skip
      refine W_region hT hG [200041, 200042, 200043] [0, 2, 6, 9, 10, 11, 12, 13, 44] ?_
      rw [hnt]
      simp only [baseS, eq_self, implies_true, if_true, if_false, reduceIte, Nat.reduceBEq, Nat.reduceEqDiff, Nat.reduceLT, Nat.reduceAdd, reduceCtorEq, relC, callOK0, callOK1, fzE, c_spec_l20BoxesZR, tyInt, tdInt, tyInts, tdInts, tyHull, tdHull, tyBoxes, tdBoxes, tyRdP, tdRdP, tyBox, tdBox, c_spec_l20Rd_pick, c_spec_l20Rd_odd, c_spec_l20HullZ, c_spec_l20BoxesZ, c_spec_PlanEmpty, c_spec_PlanNext, c_spec_PlanPut, storeAV, setAll, FT.of, FT.setf, List.set_cons_zero, List.set_cons_succ, Option.isSome_some, Int.add_assoc, Int.reduceAdd, rowsAV, appAV, srcRows, srcFlat, reduceDIte, room, List.length_append, Nat.reduceLeDiff, elems, Int.mul_assoc, decide_eq_false hs14]
      repeat (refine And.intro ?_ ?_; focus (first | exact ordP (by kernel_rfl) | with_reducible exact rfl | trivial | assumption | (simp only [inR]; omega) | omega | exact ⟨hc, by omega, by omega⟩ | exact ⟨hc, by omega, by omega, by omega⟩ | exact ⟨_, rfl⟩ | exact ⟨by omega, by omega⟩ | (simp only [List.length_append, List.length_cons, List.length_nil, room]; omega)))
      refine hK13 _ ?_
      clear hK13
      refine W_cond (b := _) rfl (fun hc19 => ?_) (fun hc19 => ?_)
      · try simp only [decide_eq_true_eq, decide_eq_false_iff_not, ne_eq, Decidable.not_not, Bool.not_eq_true', Bool.not_eq_false', Bool.or_eq_true, Bool.and_eq_true, Bool.or_eq_false_iff, Bool.and_eq_false_iff] at hc19
        first | (cases hc19; done) | (simp at hc19; done) | exact absurd hc19 (by simp)
      · try simp only [decide_eq_true_eq, decide_eq_false_iff_not, ne_eq, Decidable.not_not, Bool.not_eq_true', Bool.not_eq_false', Bool.or_eq_true, Bool.and_eq_true, Bool.or_eq_false_iff, Bool.and_eq_false_iff] at hc19
        refine W_skip ?_
        simp only [thenQ, blockQ, loopQ, reduceIte, Nat.reduceEqDiff]
        refine hK11 _ ?_
        clear hK11
        refine W_region hT hG [] [0, 2, 6, 9, 10, 11, 12] ?_
        rw [hnt]
        simp only [baseS, eq_self, implies_true, if_true, if_false, reduceIte, Nat.reduceBEq, Nat.reduceEqDiff, Nat.reduceLT, Nat.reduceAdd, reduceCtorEq, relC, callOK0, callOK1, fzE, c_spec_l20BoxesZR, tyInt, tdInt, tyInts, tdInts, tyHull, tdHull, tyBoxes, tdBoxes, tyRdP, tdRdP, tyBox, tdBox, c_spec_l20Rd_pick, c_spec_l20Rd_odd, c_spec_l20HullZ, c_spec_l20BoxesZ, c_spec_PlanEmpty, c_spec_PlanNext, c_spec_PlanPut, storeAV, setAll, FT.of, FT.setf, List.set_cons_zero, List.set_cons_succ, Option.isSome_some, Int.add_assoc, Int.reduceAdd, rowsAV, appAV, srcRows, srcFlat, reduceDIte, room, List.length_append, Nat.reduceLeDiff, elems, Int.mul_assoc]
        repeat (refine And.intro ?_ ?_; focus (first | exact ordP (by kernel_rfl) | with_reducible exact rfl | trivial | assumption | (simp only [inR]; omega) | omega | exact ⟨hc, by omega, by omega⟩ | exact ⟨hc, by omega, by omega, by omega⟩ | exact ⟨_, rfl⟩ | exact ⟨by omega, by omega⟩ | (simp only [List.length_append, List.length_cons, List.length_nil, room]; omega)))
        first
        | (refine ⟨(k + 1, pl, q), (by (try simp only [hnt, hnp]); rfl), ⟨by dsimp only; omega, by dsimp only; omega, by dsimp only; omega, hpv⟩, by dsimp only; omega⟩)
        | (refine ⟨(k + 1, pl, q + 1), (by (try simp only [hnt, hnp]); rfl), ⟨by dsimp only; omega, by dsimp only; omega, by dsimp only; omega, hpv⟩, by dsimp only; omega⟩)
        | (refine ⟨(k + 1, pl, q + 2), (by (try simp only [hnt, hnp]); rfl), ⟨by dsimp only; omega, by dsimp only; omega, by dsimp only; omega, hpv⟩, by dsimp only; omega⟩)
        | (refine ⟨(k + 1, (putR _ _ _ _ _ _ _).1, q + 2), (by (try simp only [hnt, hnp]); rfl), ⟨by dsimp only; omega, by dsimp only; exact Nat.le_trans (hput _ _) hpl, by dsimp only; omega, fun hz => put_valid (hpv hz)⟩, by dsimp only; omega⟩)
  · try simp only [decide_eq_true_eq, decide_eq_false_iff_not, ne_eq, Decidable.not_not, Bool.not_eq_true', Bool.not_eq_false', Bool.or_eq_true, Bool.and_eq_true, Bool.or_eq_false_iff, Bool.and_eq_false_iff] at hc10
    refine W_exit ?_
    simp only [thenQ, blockQ, loopQ, reduceIte, Nat.reduceEqDiff]
    refine hK5 _ ?_
    clear hK5
    refine W_seq (fun K20 hK20 => ?_)
    refine W_seq (fun K21 hK21 => ?_)
    refine W_region hT hG [] [0, 6, 9, 10, 11, 69] ?_
    rw [hnt]
    have ho := oddP_box q (3 * n)
    simp only [baseS, eq_self, implies_true, if_true, if_false, reduceIte, Nat.reduceBEq, Nat.reduceEqDiff, Nat.reduceLT, Nat.reduceAdd, reduceCtorEq, relC, callOK0, callOK1, fzE, c_spec_l20BoxesZR, tyInt, tdInt, tyInts, tdInts, tyHull, tdHull, tyBoxes, tdBoxes, tyRdP, tdRdP, tyBox, tdBox, c_spec_l20Rd_pick, c_spec_l20Rd_odd, c_spec_l20HullZ, c_spec_l20BoxesZ, c_spec_PlanEmpty, c_spec_PlanNext, c_spec_PlanPut, storeAV, setAll, FT.of, FT.setf, List.set_cons_zero, List.set_cons_succ, Option.isSome_some, Int.add_assoc, Int.reduceAdd, rowsAV, appAV, srcRows, srcFlat, reduceDIte, room, List.length_append, Nat.reduceLeDiff, elems, Int.mul_assoc]
    repeat (refine And.intro ?_ ?_; focus (first | exact ordP (by kernel_rfl) | with_reducible exact rfl | trivial | assumption | (simp only [inR]; omega) | omega | exact ⟨hc, by omega, by omega⟩ | exact ⟨hc, by omega, by omega, by omega⟩ | exact ⟨_, rfl⟩ | exact ⟨by omega, by omega⟩ | (simp only [List.length_append, List.length_cons, List.length_nil, room]; omega)))
    refine hK21 _ ?_
    clear hK21
    refine W_cond (b := _) rfl (fun hc22 => ?_) (fun hc22 => ?_)
    · try simp only [decide_eq_true_eq, decide_eq_false_iff_not, ne_eq, Decidable.not_not, Bool.not_eq_true', Bool.not_eq_false', Bool.or_eq_true, Bool.and_eq_true, Bool.or_eq_false_iff, Bool.and_eq_false_iff] at hc22
      refine W_seq (fun K23 hK23 => ?_)
      by_cases hs24 : (0 : Int) < (pl.length : Int)
      · skip
        refine W_region hT hG [100074, 100075, 100076] [0, 6, 9, 10, 11, 77] ?_
        rw [hnt]
        simp only [baseS, eq_self, implies_true, if_true, if_false, reduceIte, Nat.reduceBEq, Nat.reduceEqDiff, Nat.reduceLT, Nat.reduceAdd, reduceCtorEq, relC, callOK0, callOK1, fzE, c_spec_l20BoxesZR, tyInt, tdInt, tyInts, tdInts, tyHull, tdHull, tyBoxes, tdBoxes, tyRdP, tdRdP, tyBox, tdBox, c_spec_l20Rd_pick, c_spec_l20Rd_odd, c_spec_l20HullZ, c_spec_l20BoxesZ, c_spec_PlanEmpty, c_spec_PlanNext, c_spec_PlanPut, storeAV, setAll, FT.of, FT.setf, List.set_cons_zero, List.set_cons_succ, Option.isSome_some, Int.add_assoc, Int.reduceAdd, rowsAV, appAV, srcRows, srcFlat, reduceDIte, room, List.length_append, Nat.reduceLeDiff, elems, Int.mul_assoc, decide_eq_true hs24]
        repeat (refine And.intro ?_ ?_; focus (first | exact ordP (by kernel_rfl) | with_reducible exact rfl | trivial | assumption | (simp only [inR]; omega) | omega | exact ⟨hc, by omega, by omega⟩ | exact ⟨hc, by omega, by omega, by omega⟩ | exact ⟨_, rfl⟩ | exact ⟨by omega, by omega⟩ | (simp only [List.length_append, List.length_cons, List.length_nil, room]; omega)))
        refine hK23 _ ?_
        clear hK23
        refine W_cond (b := _) rfl (fun hc25 => ?_) (fun hc25 => ?_)
        · try simp only [decide_eq_true_eq, decide_eq_false_iff_not, ne_eq, Decidable.not_not, Bool.not_eq_true', Bool.not_eq_false', Bool.or_eq_true, Bool.and_eq_true, Bool.or_eq_false_iff, Bool.and_eq_false_iff] at hc25
          refine W_region hT hG [] [0, 6, 9, 10, 11] ?_
          rw [hnt]
          have hpk1 := pick_box (b := b) (p := oddP q (3 * n) + 1) (n := (pl.length : Int)) (by omega)
          have hpk2 := pick_box (b := b) (p := oddP q (3 * n) + 2) (n := 4) (by omega)
          simp only [baseS, eq_self, implies_true, if_true, if_false, reduceIte, Nat.reduceBEq, Nat.reduceEqDiff, Nat.reduceLT, Nat.reduceAdd, reduceCtorEq, relC, callOK0, callOK1, fzE, c_spec_l20BoxesZR, tyInt, tdInt, tyInts, tdInts, tyHull, tdHull, tyBoxes, tdBoxes, tyRdP, tdRdP, tyBox, tdBox, c_spec_l20Rd_pick, c_spec_l20Rd_odd, c_spec_l20HullZ, c_spec_l20BoxesZ, c_spec_PlanEmpty, c_spec_PlanNext, c_spec_PlanPut, storeAV, setAll, FT.of, FT.setf, List.set_cons_zero, List.set_cons_succ, Option.isSome_some, Int.add_assoc, Int.reduceAdd, rowsAV, appAV, srcRows, srcFlat, reduceDIte, room, List.length_append, Nat.reduceLeDiff, elems, Int.mul_assoc]
          repeat (refine And.intro ?_ ?_; focus (first | exact ordP (by kernel_rfl) | with_reducible exact rfl | trivial | assumption | (simp only [inR]; omega) | omega | exact ⟨hc, by omega, by omega⟩ | exact ⟨hc, by omega, by omega, by omega⟩ | exact ⟨_, rfl⟩ | exact ⟨by omega, by omega⟩ | (simp only [List.length_append, List.length_cons, List.length_nil, room]; omega)))
          refine hK20 _ ?_
          clear hK20
          refine W_seq (fun K26 hK26 => ?_)
          refine W_region hT hG [] [0, 6, 7, 8] ?_
          rw [hnt]
          simp only [baseS, eq_self, implies_true, if_true, if_false, reduceIte, Nat.reduceBEq, Nat.reduceEqDiff, Nat.reduceLT, Nat.reduceAdd, reduceCtorEq, relC, callOK0, callOK1, fzE, c_spec_l20BoxesZR, tyInt, tdInt, tyInts, tdInts, tyHull, tdHull, tyBoxes, tdBoxes, tyRdP, tdRdP, tyBox, tdBox, c_spec_l20Rd_pick, c_spec_l20Rd_odd, c_spec_l20HullZ, c_spec_l20BoxesZ, c_spec_PlanEmpty, c_spec_PlanNext, c_spec_PlanPut, storeAV, setAll, FT.of, FT.setf, List.set_cons_zero, List.set_cons_succ, Option.isSome_some, Int.add_assoc, Int.reduceAdd, rowsAV, appAV, srcRows, srcFlat, reduceDIte, room, List.length_append, Nat.reduceLeDiff, elems, Int.mul_assoc]
          repeat (refine And.intro ?_ ?_; focus (first | exact ordP (by kernel_rfl) | with_reducible exact rfl | trivial | assumption | (simp only [inR]; omega) | omega | exact ⟨hc, by omega, by omega⟩ | exact ⟨hc, by omega, by omega, by omega⟩ | exact ⟨_, rfl⟩ | exact ⟨by omega, by omega⟩ | (simp only [List.length_append, List.length_cons, List.length_nil, room]; omega)))
          refine hK26 _ ?_
          clear hK26
          refine W_re [(0, .var), (6, .var), (7, .own 81 .box), (8, .fz .i64)] (by (try simp only [hnt, hnp]); rfl) ?_
          refine W_ret ?_
          simp only [thenQ, blockQ, loopQ, retR, retQ, reduceIte, Nat.reduceEqDiff]
          refine rr6 (retmn 0 7 rfl rfl rfl (by decide) rfl rfl (.inl rfl) rfl) ?_
          refine ⟨by omega, ?_, ⟨by omega, by omega⟩, fun hz => ?_⟩
          · first | omega | (simp only [List.length_append, List.length_cons, List.length_nil]; omega) | (rw [List.length_set]; omega)
          · have h0 := hz0 hz
            first
            | (exact hpv hz)
            | (exfalso; simp_all; done)
        · try simp only [decide_eq_true_eq, decide_eq_false_iff_not, ne_eq, Decidable.not_not, Bool.not_eq_true', Bool.not_eq_false', Bool.or_eq_true, Bool.and_eq_true, Bool.or_eq_false_iff, Bool.and_eq_false_iff] at hc25
          refine W_region hT hG [] [0, 6, 9, 10, 11] ?_
          rw [hnt]
          simp only [baseS, eq_self, implies_true, if_true, if_false, reduceIte, Nat.reduceBEq, Nat.reduceEqDiff, Nat.reduceLT, Nat.reduceAdd, reduceCtorEq, relC, callOK0, callOK1, fzE, c_spec_l20BoxesZR, tyInt, tdInt, tyInts, tdInts, tyHull, tdHull, tyBoxes, tdBoxes, tyRdP, tdRdP, tyBox, tdBox, c_spec_l20Rd_pick, c_spec_l20Rd_odd, c_spec_l20HullZ, c_spec_l20BoxesZ, c_spec_PlanEmpty, c_spec_PlanNext, c_spec_PlanPut, storeAV, setAll, FT.of, FT.setf, List.set_cons_zero, List.set_cons_succ, Option.isSome_some, Int.add_assoc, Int.reduceAdd, rowsAV, appAV, srcRows, srcFlat, reduceDIte, room, List.length_append, Nat.reduceLeDiff, elems, Int.mul_assoc]
          repeat (refine And.intro ?_ ?_; focus (first | exact ordP (by kernel_rfl) | with_reducible exact rfl | trivial | assumption | (simp only [inR]; omega) | omega | exact ⟨hc, by omega, by omega⟩ | exact ⟨hc, by omega, by omega, by omega⟩ | exact ⟨_, rfl⟩ | exact ⟨by omega, by omega⟩ | (simp only [List.length_append, List.length_cons, List.length_nil, room]; omega)))
          refine hK20 _ ?_
          clear hK20
          refine W_seq (fun K27 hK27 => ?_)
          refine W_region hT hG [] [0, 6, 7, 8] ?_
          rw [hnt]
          simp only [baseS, eq_self, implies_true, if_true, if_false, reduceIte, Nat.reduceBEq, Nat.reduceEqDiff, Nat.reduceLT, Nat.reduceAdd, reduceCtorEq, relC, callOK0, callOK1, fzE, c_spec_l20BoxesZR, tyInt, tdInt, tyInts, tdInts, tyHull, tdHull, tyBoxes, tdBoxes, tyRdP, tdRdP, tyBox, tdBox, c_spec_l20Rd_pick, c_spec_l20Rd_odd, c_spec_l20HullZ, c_spec_l20BoxesZ, c_spec_PlanEmpty, c_spec_PlanNext, c_spec_PlanPut, storeAV, setAll, FT.of, FT.setf, List.set_cons_zero, List.set_cons_succ, Option.isSome_some, Int.add_assoc, Int.reduceAdd, rowsAV, appAV, srcRows, srcFlat, reduceDIte, room, List.length_append, Nat.reduceLeDiff, elems, Int.mul_assoc]
          repeat (refine And.intro ?_ ?_; focus (first | exact ordP (by kernel_rfl) | with_reducible exact rfl | trivial | assumption | (simp only [inR]; omega) | omega | exact ⟨hc, by omega, by omega⟩ | exact ⟨hc, by omega, by omega, by omega⟩ | exact ⟨_, rfl⟩ | exact ⟨by omega, by omega⟩ | (simp only [List.length_append, List.length_cons, List.length_nil, room]; omega)))
          refine hK27 _ ?_
          clear hK27
          refine W_re [(0, .var), (6, .var), (7, .own 81 .box), (8, .fz .i64)] (by (try simp only [hnt, hnp]); rfl) ?_
          refine W_ret ?_
          simp only [thenQ, blockQ, loopQ, retR, retQ, reduceIte, Nat.reduceEqDiff]
          refine rr6 (retmn 0 7 rfl rfl rfl (by decide) rfl rfl (.inl rfl) rfl) ?_
          refine ⟨by omega, ?_, ⟨by omega, by omega⟩, fun hz => ?_⟩
          · first | omega | (simp only [List.length_append, List.length_cons, List.length_nil]; omega) | (rw [List.length_set]; omega)
          · have h0 := hz0 hz
            first
            | (exact hpv hz)
            | (exfalso; simp_all; done)
      · skip
        refine W_region hT hG [200074, 200075, 200076] [0, 6, 9, 10, 11, 77] ?_
        rw [hnt]
        simp only [baseS, eq_self, implies_true, if_true, if_false, reduceIte, Nat.reduceBEq, Nat.reduceEqDiff, Nat.reduceLT, Nat.reduceAdd, reduceCtorEq, relC, callOK0, callOK1, fzE, c_spec_l20BoxesZR, tyInt, tdInt, tyInts, tdInts, tyHull, tdHull, tyBoxes, tdBoxes, tyRdP, tdRdP, tyBox, tdBox, c_spec_l20Rd_pick, c_spec_l20Rd_odd, c_spec_l20HullZ, c_spec_l20BoxesZ, c_spec_PlanEmpty, c_spec_PlanNext, c_spec_PlanPut, storeAV, setAll, FT.of, FT.setf, List.set_cons_zero, List.set_cons_succ, Option.isSome_some, Int.add_assoc, Int.reduceAdd, rowsAV, appAV, srcRows, srcFlat, reduceDIte, room, List.length_append, Nat.reduceLeDiff, elems, Int.mul_assoc, decide_eq_false hs24]
        repeat (refine And.intro ?_ ?_; focus (first | exact ordP (by kernel_rfl) | with_reducible exact rfl | trivial | assumption | (simp only [inR]; omega) | omega | exact ⟨hc, by omega, by omega⟩ | exact ⟨hc, by omega, by omega, by omega⟩ | exact ⟨_, rfl⟩ | exact ⟨by omega, by omega⟩ | (simp only [List.length_append, List.length_cons, List.length_nil, room]; omega)))
        refine hK23 _ ?_
        clear hK23
        refine W_cond (b := _) rfl (fun hc28 => ?_) (fun hc28 => ?_)
        · try simp only [decide_eq_true_eq, decide_eq_false_iff_not, ne_eq, Decidable.not_not, Bool.not_eq_true', Bool.not_eq_false', Bool.or_eq_true, Bool.and_eq_true, Bool.or_eq_false_iff, Bool.and_eq_false_iff] at hc28
          first | (cases hc28; done) | (simp at hc28; done) | exact absurd hc28 (by simp)
        · try simp only [decide_eq_true_eq, decide_eq_false_iff_not, ne_eq, Decidable.not_not, Bool.not_eq_true', Bool.not_eq_false', Bool.or_eq_true, Bool.and_eq_true, Bool.or_eq_false_iff, Bool.and_eq_false_iff] at hc28
          refine W_region hT hG [] [0, 6, 9, 10, 11] ?_
          rw [hnt]
          simp only [baseS, eq_self, implies_true, if_true, if_false, reduceIte, Nat.reduceBEq, Nat.reduceEqDiff, Nat.reduceLT, Nat.reduceAdd, reduceCtorEq, relC, callOK0, callOK1, fzE, c_spec_l20BoxesZR, tyInt, tdInt, tyInts, tdInts, tyHull, tdHull, tyBoxes, tdBoxes, tyRdP, tdRdP, tyBox, tdBox, c_spec_l20Rd_pick, c_spec_l20Rd_odd, c_spec_l20HullZ, c_spec_l20BoxesZ, c_spec_PlanEmpty, c_spec_PlanNext, c_spec_PlanPut, storeAV, setAll, FT.of, FT.setf, List.set_cons_zero, List.set_cons_succ, Option.isSome_some, Int.add_assoc, Int.reduceAdd, rowsAV, appAV, srcRows, srcFlat, reduceDIte, room, List.length_append, Nat.reduceLeDiff, elems, Int.mul_assoc]
          repeat (refine And.intro ?_ ?_; focus (first | exact ordP (by kernel_rfl) | with_reducible exact rfl | trivial | assumption | (simp only [inR]; omega) | omega | exact ⟨hc, by omega, by omega⟩ | exact ⟨hc, by omega, by omega, by omega⟩ | exact ⟨_, rfl⟩ | exact ⟨by omega, by omega⟩ | (simp only [List.length_append, List.length_cons, List.length_nil, room]; omega)))
          refine hK20 _ ?_
          clear hK20
          refine W_seq (fun K29 hK29 => ?_)
          refine W_region hT hG [] [0, 6, 7, 8] ?_
          rw [hnt]
          simp only [baseS, eq_self, implies_true, if_true, if_false, reduceIte, Nat.reduceBEq, Nat.reduceEqDiff, Nat.reduceLT, Nat.reduceAdd, reduceCtorEq, relC, callOK0, callOK1, fzE, c_spec_l20BoxesZR, tyInt, tdInt, tyInts, tdInts, tyHull, tdHull, tyBoxes, tdBoxes, tyRdP, tdRdP, tyBox, tdBox, c_spec_l20Rd_pick, c_spec_l20Rd_odd, c_spec_l20HullZ, c_spec_l20BoxesZ, c_spec_PlanEmpty, c_spec_PlanNext, c_spec_PlanPut, storeAV, setAll, FT.of, FT.setf, List.set_cons_zero, List.set_cons_succ, Option.isSome_some, Int.add_assoc, Int.reduceAdd, rowsAV, appAV, srcRows, srcFlat, reduceDIte, room, List.length_append, Nat.reduceLeDiff, elems, Int.mul_assoc]
          repeat (refine And.intro ?_ ?_; focus (first | exact ordP (by kernel_rfl) | with_reducible exact rfl | trivial | assumption | (simp only [inR]; omega) | omega | exact ⟨hc, by omega, by omega⟩ | exact ⟨hc, by omega, by omega, by omega⟩ | exact ⟨_, rfl⟩ | exact ⟨by omega, by omega⟩ | (simp only [List.length_append, List.length_cons, List.length_nil, room]; omega)))
          refine hK29 _ ?_
          clear hK29
          refine W_re [(0, .var), (6, .var), (7, .own 81 .box), (8, .fz .i64)] (by (try simp only [hnt, hnp]); rfl) ?_
          refine W_ret ?_
          simp only [thenQ, blockQ, loopQ, retR, retQ, reduceIte, Nat.reduceEqDiff]
          refine rr6 (retmn 0 7 rfl rfl rfl (by decide) rfl rfl (.inl rfl) rfl) ?_
          refine ⟨by omega, ?_, ⟨by omega, by omega⟩, fun hz => ?_⟩
          · first | omega | (simp only [List.length_append, List.length_cons, List.length_nil]; omega) | (rw [List.length_set]; omega)
          · have h0 := hz0 hz
            first
            | (exact hpv hz)
            | (exfalso; simp_all; done)
    · try simp only [decide_eq_true_eq, decide_eq_false_iff_not, ne_eq, Decidable.not_not, Bool.not_eq_true', Bool.not_eq_false', Bool.or_eq_true, Bool.and_eq_true, Bool.or_eq_false_iff, Bool.and_eq_false_iff] at hc22
      refine W_skip ?_
      simp only [thenQ, blockQ, loopQ, reduceIte, Nat.reduceEqDiff]
      refine hK20 _ ?_
      clear hK20
      refine W_seq (fun K30 hK30 => ?_)
      refine W_region hT hG [] [0, 6, 7, 8] ?_
      rw [hnt]
      simp only [baseS, eq_self, implies_true, if_true, if_false, reduceIte, Nat.reduceBEq, Nat.reduceEqDiff, Nat.reduceLT, Nat.reduceAdd, reduceCtorEq, relC, callOK0, callOK1, fzE, c_spec_l20BoxesZR, tyInt, tdInt, tyInts, tdInts, tyHull, tdHull, tyBoxes, tdBoxes, tyRdP, tdRdP, tyBox, tdBox, c_spec_l20Rd_pick, c_spec_l20Rd_odd, c_spec_l20HullZ, c_spec_l20BoxesZ, c_spec_PlanEmpty, c_spec_PlanNext, c_spec_PlanPut, storeAV, setAll, FT.of, FT.setf, List.set_cons_zero, List.set_cons_succ, Option.isSome_some, Int.add_assoc, Int.reduceAdd, rowsAV, appAV, srcRows, srcFlat, reduceDIte, room, List.length_append, Nat.reduceLeDiff, elems, Int.mul_assoc]
      repeat (refine And.intro ?_ ?_; focus (first | exact ordP (by kernel_rfl) | with_reducible exact rfl | trivial | assumption | (simp only [inR]; omega) | omega | exact ⟨hc, by omega, by omega⟩ | exact ⟨hc, by omega, by omega, by omega⟩ | exact ⟨_, rfl⟩ | exact ⟨by omega, by omega⟩ | (simp only [List.length_append, List.length_cons, List.length_nil, room]; omega)))
      refine hK30 _ ?_
      clear hK30
      refine W_re [(0, .var), (6, .var), (7, .own 81 .box), (8, .fz .i64)] (by (try simp only [hnt, hnp]); rfl) ?_
      refine W_ret ?_
      simp only [thenQ, blockQ, loopQ, retR, retQ, reduceIte, Nat.reduceEqDiff]
      refine rr6 (retmn 0 7 rfl rfl rfl (by decide) rfl rfl (.inl rfl) rfl) ?_
      refine ⟨by omega, ?_, ⟨by omega, by omega⟩, fun hz => ?_⟩
      · first | omega | (simp only [List.length_append, List.length_cons, List.length_nil]; omega) | (rw [List.length_set]; omega)
      · have h0 := hz0 hz
        first
        | (exact hpv hz)
        | (exfalso; simp_all; done)

end Go.Proofs.Ytpiaeckkjdcifaa
