/- Walks over drawn boxes and plans that are valid. No condition. -/
import Derived.Test.YtpiaeckkjdcifaaDrawP
import Derived.Test.YtpiaeckkjdcifaaPlanX
namespace Go.Proofs.Ytpiaeckkjdcifaa
open Go
set_option linter.unusedVariables false
set_option linter.unusedSimpArgs false

theorem oddB_0 (b : List Int) (p : Int) : oddB b p 0 = false := by simp [oddB]
theorem bx_app {a : List BoxD} {x : BoxD} {j : Nat} : bx (a ++ [x]) j = if j < a.length then bx a j else if j = a.length then x else bx [] 0 := by
  by_cases h : j < a.length
  · rw [if_pos h]; simp [bx, List.getD_eq_getElem?_getD, List.getElem?_append_left h]
  · rw [if_neg h]
    by_cases e : j = a.length
    · rw [if_pos e]; subst e; simp [bx, List.getD_eq_getElem?_getD]
    · rw [if_neg e]
      have : a.length + 1 ≤ j := by omega
      simp [bx, List.getD_eq_getElem?_getD, List.getElem?_eq_none, this]
theorem run_step {a : List BoxD} {x : BoxD} (h : ∀ j, j < a.length → boxB (bx a j) = true ∧ (bx a j).id = (j : Int) + 1) (h1 : boxB x = true) (h2 : x.id = (a.length : Int) + 1) : ∀ j, j < (a ++ [x]).length → boxB (bx (a ++ [x]) j) = true ∧ (bx (a ++ [x]) j).id = (j : Int) + 1 := by
  intro j hj
  rw [List.length_append, List.length_cons, List.length_nil] at hj
  rw [bx_app]
  by_cases e : j < a.length
  · rw [if_pos e]; exact h j e
  · have e2 : j = a.length := by omega
    rw [if_neg e, if_pos e2, e2]; exact ⟨h1, h2⟩
theorem boxes_run {a : List BoxD} (h : ∀ j, j < a.length → boxB (bx a j) = true ∧ (bx a j).id = (j : Int) + 1) (hl : a.length ≤ 10) : boxesB a = true := by
  simp only [boxesB, Bool.and_eq_true, List.all_eq_true, List.mem_range, decide_eq_true_eq, bxOK]
  refine ⟨fun k hk => ⟨(h k hk).1, ?_⟩, by omega⟩
  refine Classical.byContradiction fun hn => ?_
  have h1 := (findF_take hk).2 (by omega)
  have hlt : 0 ≤ findF a (bx a k).id 0 := by
    have h3 : 0 ≤ findF (a.take k) (bx a k).id 0 := by omega
    have e : a = a.take k ++ a.drop k := (List.take_append_drop k a).symm
    have h4 : findF a (bx a k).id 0 = findF (a.take k ++ a.drop k) (bx a k).id 0 := by rw [← e]
    rw [h4, findF_app _ _ _ _ (by omega), if_pos h3]; exact h3
  have h5 := findF_id a _ 0 (by omega) hlt
  rw [Int.sub_zero] at h5
  have hlt2 := findF_lt hlt
  have h6 := (h (findF a (bx a k).id 0).toNat (by omega)).2
  have h7 := (h k hk).2
  omega

def c_spec_l20BoxZR : List AV → List Own → Option (Prop × (CRes → Prop)) := fun xs os => match xs, os with
    | [.int i, .int n], [.var [.rs .u8 b, .int p]] => some (codeOK b ∧ (0 ≤ p ∧ p ≤ 950000) ∧ (0 ≤ n ∧ n ≤ 1000), fun R => ∃ (x1 : Int) (x2 : Int) (x3 : Int) (x4 : Int) (x5 : Bool) (q : Int), R = ⟨True, .agg [.int x1, .int x2, .int x3, .int x4, .bool x5], [], [.var [.rs .u8 b, .int q]]⟩ ∧ (p ≤ q ∧ q ≤ p + 8 ∧ (n = 0 ∧ 1 ≤ i ∧ i ≤ 999 → boxB ⟨x1, x2, x3, x4, x5⟩ = true ∧ x1 = i)))
    | _, _ => none
def c_spec_l20BoxZ : Ctr := ⟨[.m, .v .p, .v .p], true, fun _ _ => none, some c_spec_l20BoxZR⟩
theorem m_spec_l20BoxZ : Meets Try.prog 147 c_spec_l20BoxZ := by
  refine meetsR_of (T := tyT) tyOK Try.func147 (by rfl) rfl (by decide) ?_
  intro args owns pre S hrun hpre
  simp only [c_spec_l20BoxZR] at hrun
  split at hrun
  case h_2 => cases hrun
  rename_i i n b p
  cases hrun
  try dsimp only at hpre
  refine ⟨⟨[(0, .op 0 0), (1, .int i), (2, .int n)], [(0, some (.var [.rs .u8 b, .int p]))], 60⟩, rfl, fun E hP hnt hnp => ?_⟩
  replace hnt : E.nt = 60 := hnt
  replace hnp : E.np = 3 := hnp
  have hT : ∀ t d, tyT t = some d → TyOK E.P t d := hP ▸ tyOK
  have hG : ∀ f C, Γof [(59, c_spec_l20Rd_pick), (60, c_spec_l20Rd_odd)] f = some C → Meets E.P f C := hΓof (by rw [hP]; exact ⟨m_spec_l20Rd_pick, m_spec_l20Rd_odd, trivial⟩)
  try simp only [show Try.f147.ntmps = 60 from rfl]
  have hc := hpre.1
  have hp := hpre.2.1
  have hn := hpre.2.2
  have k1 := fun (p n : Int) (h : 1 ≤ n) => pick_box (b := b) (p := p) (n := n) h
  have j0 := k1 p 30 (by omega)
  have j1 := k1 (p + 1) 7 (by omega)
  have j3 := k1 (p + 4) 4 (by omega)
  have ho1 := oddP_box (p + 4) n
  have ho2 := oddP_box (p + 5) n
  have j4 := k1 (oddP (p + 4) n + 1) 2 (by omega)
  have j5 := k1 (oddP (p + 5) n + 1) 2 (by omega)
  have hz0 : n = 0 → oddB b (p + 4) n = false ∧ oddB b (p + 5) n = false := fun h => by rw [h]; exact ⟨oddB_0 _ _, oddB_0 _ _⟩
  refine W_seq (fun K1 hK1 => ?_)
  refine W_region hT hG [] [0, 1, 2, 6] ?_
  rw [hnt]
  simp only [baseS, eq_self, implies_true, if_true, if_false, reduceIte, Nat.reduceBEq, Nat.reduceEqDiff, Nat.reduceLT, Nat.reduceAdd, reduceCtorEq, tyInt, tdInt, tyInts, tdInts, tyRdP, tdRdP, tyBox, tdBox, c_spec_l20Rd_pick, c_spec_l20Rd_odd, storeAV, setAll, FT.of, FT.setf, List.set_cons_zero, List.set_cons_succ, Option.isSome_some, Int.add_assoc, Int.reduceAdd, rowsAV, appAV, srcRows, srcFlat, reduceDIte, room, List.length_append, Nat.reduceLeDiff, elems, Int.mul_assoc]
  repeat (refine And.intro ?_ ?_; focus (first | exact ordP (by kernel_rfl) | with_reducible exact rfl | trivial | assumption | (simp only [inR]; omega) | omega | exact ⟨hc, by omega, by omega⟩ | exact ⟨hc, by omega, by omega, by omega⟩ | exact ⟨_, rfl⟩ | exact ⟨by omega, by omega⟩ | (simp only [List.length_append, List.length_cons, List.length_nil, room]; omega)))
  refine hK1 _ ?_
  clear hK1
  refine W_seq (fun K2 hK2 => ?_)
  refine W_region hT hG [] [0, 2, 6, 7] ?_
  rw [hnt]
  simp only [baseS, eq_self, implies_true, if_true, if_false, reduceIte, Nat.reduceBEq, Nat.reduceEqDiff, Nat.reduceLT, Nat.reduceAdd, reduceCtorEq, tyInt, tdInt, tyInts, tdInts, tyRdP, tdRdP, tyBox, tdBox, c_spec_l20Rd_pick, c_spec_l20Rd_odd, storeAV, setAll, FT.of, FT.setf, List.set_cons_zero, List.set_cons_succ, Option.isSome_some, Int.add_assoc, Int.reduceAdd, rowsAV, appAV, srcRows, srcFlat, reduceDIte, room, List.length_append, Nat.reduceLeDiff, elems, Int.mul_assoc]
  repeat (refine And.intro ?_ ?_; focus (first | exact ordP (by kernel_rfl) | with_reducible exact rfl | trivial | assumption | (simp only [inR]; omega) | omega | exact ⟨hc, by omega, by omega⟩ | exact ⟨hc, by omega, by omega, by omega⟩ | exact ⟨_, rfl⟩ | exact ⟨by omega, by omega⟩ | (simp only [List.length_append, List.length_cons, List.length_nil, room]; omega)))
  refine hK2 _ ?_
  clear hK2
  refine W_seq (fun K3 hK3 => ?_)
  refine W_seq (fun K4 hK4 => ?_)
  refine W_region hT hG [] [0, 2, 6, 7, 20] ?_
  rw [hnt]
  simp only [baseS, eq_self, implies_true, if_true, if_false, reduceIte, Nat.reduceBEq, Nat.reduceEqDiff, Nat.reduceLT, Nat.reduceAdd, reduceCtorEq, tyInt, tdInt, tyInts, tdInts, tyRdP, tdRdP, tyBox, tdBox, c_spec_l20Rd_pick, c_spec_l20Rd_odd, storeAV, setAll, FT.of, FT.setf, List.set_cons_zero, List.set_cons_succ, Option.isSome_some, Int.add_assoc, Int.reduceAdd, rowsAV, appAV, srcRows, srcFlat, reduceDIte, room, List.length_append, Nat.reduceLeDiff, elems, Int.mul_assoc]
  repeat (refine And.intro ?_ ?_; focus (first | exact ordP (by kernel_rfl) | with_reducible exact rfl | trivial | assumption | (simp only [inR]; omega) | omega | exact ⟨hc, by omega, by omega⟩ | exact ⟨hc, by omega, by omega, by omega⟩ | exact ⟨_, rfl⟩ | exact ⟨by omega, by omega⟩ | (simp only [List.length_append, List.length_cons, List.length_nil, room]; omega)))
  refine hK4 _ ?_
  clear hK4
  refine W_cond (b := _) rfl (fun hc5 => ?_) (fun hc5 => ?_)
  · try simp only [decide_eq_true_eq, decide_eq_false_iff_not, ne_eq, Decidable.not_not, Bool.not_eq_true', Bool.not_eq_false', Bool.or_eq_true, Bool.and_eq_true, Bool.or_eq_false_iff, Bool.and_eq_false_iff] at hc5
    refine W_region hT hG [] [0, 2, 6, 7] ?_
    rw [hnt]
    simp only [baseS, eq_self, implies_true, if_true, if_false, reduceIte, Nat.reduceBEq, Nat.reduceEqDiff, Nat.reduceLT, Nat.reduceAdd, reduceCtorEq, tyInt, tdInt, tyInts, tdInts, tyRdP, tdRdP, tyBox, tdBox, c_spec_l20Rd_pick, c_spec_l20Rd_odd, storeAV, setAll, FT.of, FT.setf, List.set_cons_zero, List.set_cons_succ, Option.isSome_some, Int.add_assoc, Int.reduceAdd, rowsAV, appAV, srcRows, srcFlat, reduceDIte, room, List.length_append, Nat.reduceLeDiff, elems, Int.mul_assoc]
    repeat (refine And.intro ?_ ?_; focus (first | exact ordP (by kernel_rfl) | with_reducible exact rfl | trivial | assumption | (simp only [inR]; omega) | omega | exact ⟨hc, by omega, by omega⟩ | exact ⟨hc, by omega, by omega, by omega⟩ | exact ⟨_, rfl⟩ | exact ⟨by omega, by omega⟩ | (simp only [List.length_append, List.length_cons, List.length_nil, room]; omega)))
    refine hK3 _ ?_
    clear hK3
    refine W_seq (fun K6 hK6 => ?_)
    refine W_seq (fun K7 hK7 => ?_)
    refine W_region hT hG [] [0, 6, 7, 26] ?_
    rw [hnt]
    simp only [baseS, eq_self, implies_true, if_true, if_false, reduceIte, Nat.reduceBEq, Nat.reduceEqDiff, Nat.reduceLT, Nat.reduceAdd, reduceCtorEq, tyInt, tdInt, tyInts, tdInts, tyRdP, tdRdP, tyBox, tdBox, c_spec_l20Rd_pick, c_spec_l20Rd_odd, storeAV, setAll, FT.of, FT.setf, List.set_cons_zero, List.set_cons_succ, Option.isSome_some, Int.add_assoc, Int.reduceAdd, rowsAV, appAV, srcRows, srcFlat, reduceDIte, room, List.length_append, Nat.reduceLeDiff, elems, Int.mul_assoc]
    repeat (refine And.intro ?_ ?_; focus (first | exact ordP (by kernel_rfl) | with_reducible exact rfl | trivial | assumption | (simp only [inR]; omega) | omega | exact ⟨hc, by omega, by omega⟩ | exact ⟨hc, by omega, by omega, by omega⟩ | exact ⟨_, rfl⟩ | exact ⟨by omega, by omega⟩ | (simp only [List.length_append, List.length_cons, List.length_nil, room]; omega)))
    refine hK7 _ ?_
    clear hK7
    refine W_cond (b := _) rfl (fun hc8 => ?_) (fun hc8 => ?_)
    · try simp only [decide_eq_true_eq, decide_eq_false_iff_not, ne_eq, Decidable.not_not, Bool.not_eq_true', Bool.not_eq_false', Bool.or_eq_true, Bool.and_eq_true, Bool.or_eq_false_iff, Bool.and_eq_false_iff] at hc8
      refine W_seq (fun K9 hK9 => ?_)
      refine W_region hT hG [] [0, 6, 7, 28] ?_
      rw [hnt]
      simp only [baseS, eq_self, implies_true, if_true, if_false, reduceIte, Nat.reduceBEq, Nat.reduceEqDiff, Nat.reduceLT, Nat.reduceAdd, reduceCtorEq, tyInt, tdInt, tyInts, tdInts, tyRdP, tdRdP, tyBox, tdBox, c_spec_l20Rd_pick, c_spec_l20Rd_odd, storeAV, setAll, FT.of, FT.setf, List.set_cons_zero, List.set_cons_succ, Option.isSome_some, Int.add_assoc, Int.reduceAdd, rowsAV, appAV, srcRows, srcFlat, reduceDIte, room, List.length_append, Nat.reduceLeDiff, elems, Int.mul_assoc]
      repeat (refine And.intro ?_ ?_; focus (first | exact ordP (by kernel_rfl) | with_reducible exact rfl | trivial | assumption | (simp only [inR]; omega) | omega | exact ⟨hc, by omega, by omega⟩ | exact ⟨hc, by omega, by omega, by omega⟩ | exact ⟨_, rfl⟩ | exact ⟨by omega, by omega⟩ | (simp only [List.length_append, List.length_cons, List.length_nil, room]; omega)))
      refine hK9 _ ?_
      clear hK9
      refine W_block ?_
      refine W_seq (fun K10 hK10 => ?_)
      refine W_region hT hG [] [0, 6, 7, 28, 35] ?_
      rw [hnt]
      simp only [baseS, eq_self, implies_true, if_true, if_false, reduceIte, Nat.reduceBEq, Nat.reduceEqDiff, Nat.reduceLT, Nat.reduceAdd, reduceCtorEq, tyInt, tdInt, tyInts, tdInts, tyRdP, tdRdP, tyBox, tdBox, c_spec_l20Rd_pick, c_spec_l20Rd_odd, storeAV, setAll, FT.of, FT.setf, List.set_cons_zero, List.set_cons_succ, Option.isSome_some, Int.add_assoc, Int.reduceAdd, rowsAV, appAV, srcRows, srcFlat, reduceDIte, room, List.length_append, Nat.reduceLeDiff, elems, Int.mul_assoc]
      repeat (refine And.intro ?_ ?_; focus (first | exact ordP (by kernel_rfl) | with_reducible exact rfl | trivial | assumption | (simp only [inR]; omega) | omega | exact ⟨hc, by omega, by omega⟩ | exact ⟨hc, by omega, by omega, by omega⟩ | exact ⟨_, rfl⟩ | exact ⟨by omega, by omega⟩ | (simp only [List.length_append, List.length_cons, List.length_nil, room]; omega)))
      refine hK10 _ ?_
      clear hK10
      refine W_cond (b := _) rfl (fun hc11 => ?_) (fun hc11 => ?_)
      · try simp only [decide_eq_true_eq, decide_eq_false_iff_not, ne_eq, Decidable.not_not, Bool.not_eq_true', Bool.not_eq_false', Bool.or_eq_true, Bool.and_eq_true, Bool.or_eq_false_iff, Bool.and_eq_false_iff] at hc11
        refine W_region hT hG [] [0, 6, 7] ?_
        rw [hnt]
        simp only [baseS, eq_self, implies_true, if_true, if_false, reduceIte, Nat.reduceBEq, Nat.reduceEqDiff, Nat.reduceLT, Nat.reduceAdd, reduceCtorEq, tyInt, tdInt, tyInts, tdInts, tyRdP, tdRdP, tyBox, tdBox, c_spec_l20Rd_pick, c_spec_l20Rd_odd, storeAV, setAll, FT.of, FT.setf, List.set_cons_zero, List.set_cons_succ, Option.isSome_some, Int.add_assoc, Int.reduceAdd, rowsAV, appAV, srcRows, srcFlat, reduceDIte, room, List.length_append, Nat.reduceLeDiff, elems, Int.mul_assoc]
        repeat (refine And.intro ?_ ?_; focus (first | exact ordP (by kernel_rfl) | with_reducible exact rfl | trivial | assumption | (simp only [inR]; omega) | omega | exact ⟨hc, by omega, by omega⟩ | exact ⟨hc, by omega, by omega, by omega⟩ | exact ⟨_, rfl⟩ | exact ⟨by omega, by omega⟩ | (simp only [List.length_append, List.length_cons, List.length_nil, room]; omega)))
        refine hK6 _ ?_
        clear hK6
        refine W_seq (fun K12 hK12 => ?_)
        refine W_region hT hG [] [0, 6] ?_
        rw [hnt]
        simp only [baseS, eq_self, implies_true, if_true, if_false, reduceIte, Nat.reduceBEq, Nat.reduceEqDiff, Nat.reduceLT, Nat.reduceAdd, reduceCtorEq, tyInt, tdInt, tyInts, tdInts, tyRdP, tdRdP, tyBox, tdBox, c_spec_l20Rd_pick, c_spec_l20Rd_odd, storeAV, setAll, FT.of, FT.setf, List.set_cons_zero, List.set_cons_succ, Option.isSome_some, Int.add_assoc, Int.reduceAdd, rowsAV, appAV, srcRows, srcFlat, reduceDIte, room, List.length_append, Nat.reduceLeDiff, elems, Int.mul_assoc]
        repeat (refine And.intro ?_ ?_; focus (first | exact ordP (by kernel_rfl) | with_reducible exact rfl | trivial | assumption | (simp only [inR]; omega) | omega | exact ⟨hc, by omega, by omega⟩ | exact ⟨hc, by omega, by omega, by omega⟩ | exact ⟨_, rfl⟩ | exact ⟨by omega, by omega⟩ | (simp only [List.length_append, List.length_cons, List.length_nil, room]; omega)))
        refine hK12 _ ?_
        clear hK12
        refine W_ret ?_
        simp only [thenQ, blockQ, loopQ, retR, retQ, reduceIte, Nat.reduceEqDiff]
        refine rr6 (retm 0 rfl rfl rfl rfl (.inl rfl) rfl) ?_
        refine ⟨by omega, by omega, fun hz => ?_⟩
        have h0 := hz0 hz.1
        have h1 := hz.2
        first
        | (exfalso; simp_all; done)
        | (refine ⟨?_, by first | rfl | omega⟩
           simp only [boxB, boxV, Bool.and_eq_true, decide_eq_true_eq]
           refine ⟨⟨⟨⟨by omega, by omega⟩, ⟨by omega, by omega⟩⟩, ⟨by omega, by omega⟩⟩, ⟨by omega, by omega⟩⟩)
      · try simp only [decide_eq_true_eq, decide_eq_false_iff_not, ne_eq, Decidable.not_not, Bool.not_eq_true', Bool.not_eq_false', Bool.or_eq_true, Bool.and_eq_true, Bool.or_eq_false_iff, Bool.and_eq_false_iff] at hc11
        refine W_seq (fun K13 hK13 => ?_)
        refine W_region hT hG [] [0, 6, 7, 28, 43] ?_
        rw [hnt]
        simp only [baseS, eq_self, implies_true, if_true, if_false, reduceIte, Nat.reduceBEq, Nat.reduceEqDiff, Nat.reduceLT, Nat.reduceAdd, reduceCtorEq, tyInt, tdInt, tyInts, tdInts, tyRdP, tdRdP, tyBox, tdBox, c_spec_l20Rd_pick, c_spec_l20Rd_odd, storeAV, setAll, FT.of, FT.setf, List.set_cons_zero, List.set_cons_succ, Option.isSome_some, Int.add_assoc, Int.reduceAdd, rowsAV, appAV, srcRows, srcFlat, reduceDIte, room, List.length_append, Nat.reduceLeDiff, elems, Int.mul_assoc]
        repeat (refine And.intro ?_ ?_; focus (first | exact ordP (by kernel_rfl) | with_reducible exact rfl | trivial | assumption | (simp only [inR]; omega) | omega | exact ⟨hc, by omega, by omega⟩ | exact ⟨hc, by omega, by omega, by omega⟩ | exact ⟨_, rfl⟩ | exact ⟨by omega, by omega⟩ | (simp only [List.length_append, List.length_cons, List.length_nil, room]; omega)))
        refine hK13 _ ?_
        clear hK13
        refine W_cond (b := _) rfl (fun hc14 => ?_) (fun hc14 => ?_)
        · try simp only [decide_eq_true_eq, decide_eq_false_iff_not, ne_eq, Decidable.not_not, Bool.not_eq_true', Bool.not_eq_false', Bool.or_eq_true, Bool.and_eq_true, Bool.or_eq_false_iff, Bool.and_eq_false_iff] at hc14
          refine W_region hT hG [] [0, 6, 7] ?_
          rw [hnt]
          simp only [baseS, eq_self, implies_true, if_true, if_false, reduceIte, Nat.reduceBEq, Nat.reduceEqDiff, Nat.reduceLT, Nat.reduceAdd, reduceCtorEq, tyInt, tdInt, tyInts, tdInts, tyRdP, tdRdP, tyBox, tdBox, c_spec_l20Rd_pick, c_spec_l20Rd_odd, storeAV, setAll, FT.of, FT.setf, List.set_cons_zero, List.set_cons_succ, Option.isSome_some, Int.add_assoc, Int.reduceAdd, rowsAV, appAV, srcRows, srcFlat, reduceDIte, room, List.length_append, Nat.reduceLeDiff, elems, Int.mul_assoc]
          repeat (refine And.intro ?_ ?_; focus (first | exact ordP (by kernel_rfl) | with_reducible exact rfl | trivial | assumption | (simp only [inR]; omega) | omega | exact ⟨hc, by omega, by omega⟩ | exact ⟨hc, by omega, by omega, by omega⟩ | exact ⟨_, rfl⟩ | exact ⟨by omega, by omega⟩ | (simp only [List.length_append, List.length_cons, List.length_nil, room]; omega)))
          refine hK6 _ ?_
          clear hK6
          refine W_seq (fun K15 hK15 => ?_)
          refine W_region hT hG [] [0, 6] ?_
          rw [hnt]
          simp only [baseS, eq_self, implies_true, if_true, if_false, reduceIte, Nat.reduceBEq, Nat.reduceEqDiff, Nat.reduceLT, Nat.reduceAdd, reduceCtorEq, tyInt, tdInt, tyInts, tdInts, tyRdP, tdRdP, tyBox, tdBox, c_spec_l20Rd_pick, c_spec_l20Rd_odd, storeAV, setAll, FT.of, FT.setf, List.set_cons_zero, List.set_cons_succ, Option.isSome_some, Int.add_assoc, Int.reduceAdd, rowsAV, appAV, srcRows, srcFlat, reduceDIte, room, List.length_append, Nat.reduceLeDiff, elems, Int.mul_assoc]
          repeat (refine And.intro ?_ ?_; focus (first | exact ordP (by kernel_rfl) | with_reducible exact rfl | trivial | assumption | (simp only [inR]; omega) | omega | exact ⟨hc, by omega, by omega⟩ | exact ⟨hc, by omega, by omega, by omega⟩ | exact ⟨_, rfl⟩ | exact ⟨by omega, by omega⟩ | (simp only [List.length_append, List.length_cons, List.length_nil, room]; omega)))
          refine hK15 _ ?_
          clear hK15
          refine W_ret ?_
          simp only [thenQ, blockQ, loopQ, retR, retQ, reduceIte, Nat.reduceEqDiff]
          refine rr6 (retm 0 rfl rfl rfl rfl (.inl rfl) rfl) ?_
          refine ⟨by omega, by omega, fun hz => ?_⟩
          have h0 := hz0 hz.1
          have h1 := hz.2
          first
          | (exfalso; simp_all; done)
          | (refine ⟨?_, by first | rfl | omega⟩
             simp only [boxB, boxV, Bool.and_eq_true, decide_eq_true_eq]
             refine ⟨⟨⟨⟨by omega, by omega⟩, ⟨by omega, by omega⟩⟩, ⟨by omega, by omega⟩⟩, ⟨by omega, by omega⟩⟩)
        · try simp only [decide_eq_true_eq, decide_eq_false_iff_not, ne_eq, Decidable.not_not, Bool.not_eq_true', Bool.not_eq_false', Bool.or_eq_true, Bool.and_eq_true, Bool.or_eq_false_iff, Bool.and_eq_false_iff] at hc14
          refine W_seq (fun K16 hK16 => ?_)
          refine W_region hT hG [] [0, 6, 7, 51] ?_
          rw [hnt]
          simp only [baseS, eq_self, implies_true, if_true, if_false, reduceIte, Nat.reduceBEq, Nat.reduceEqDiff, Nat.reduceLT, Nat.reduceAdd, reduceCtorEq, tyInt, tdInt, tyInts, tdInts, tyRdP, tdRdP, tyBox, tdBox, c_spec_l20Rd_pick, c_spec_l20Rd_odd, storeAV, setAll, FT.of, FT.setf, List.set_cons_zero, List.set_cons_succ, Option.isSome_some, Int.add_assoc, Int.reduceAdd, rowsAV, appAV, srcRows, srcFlat, reduceDIte, room, List.length_append, Nat.reduceLeDiff, elems, Int.mul_assoc]
          repeat (refine And.intro ?_ ?_; focus (first | exact ordP (by kernel_rfl) | with_reducible exact rfl | trivial | assumption | (simp only [inR]; omega) | omega | exact ⟨hc, by omega, by omega⟩ | exact ⟨hc, by omega, by omega, by omega⟩ | exact ⟨_, rfl⟩ | exact ⟨by omega, by omega⟩ | (simp only [List.length_append, List.length_cons, List.length_nil, room]; omega)))
          refine hK16 _ ?_
          clear hK16
          refine W_cond (b := _) rfl (fun hc17 => ?_) (fun hc17 => ?_)
          · try simp only [decide_eq_true_eq, decide_eq_false_iff_not, ne_eq, Decidable.not_not, Bool.not_eq_true', Bool.not_eq_false', Bool.or_eq_true, Bool.and_eq_true, Bool.or_eq_false_iff, Bool.and_eq_false_iff] at hc17
            refine W_region hT hG [] [0, 6, 7] ?_
            rw [hnt]
            simp only [baseS, eq_self, implies_true, if_true, if_false, reduceIte, Nat.reduceBEq, Nat.reduceEqDiff, Nat.reduceLT, Nat.reduceAdd, reduceCtorEq, tyInt, tdInt, tyInts, tdInts, tyRdP, tdRdP, tyBox, tdBox, c_spec_l20Rd_pick, c_spec_l20Rd_odd, storeAV, setAll, FT.of, FT.setf, List.set_cons_zero, List.set_cons_succ, Option.isSome_some, Int.add_assoc, Int.reduceAdd, rowsAV, appAV, srcRows, srcFlat, reduceDIte, room, List.length_append, Nat.reduceLeDiff, elems, Int.mul_assoc]
            repeat (refine And.intro ?_ ?_; focus (first | exact ordP (by kernel_rfl) | with_reducible exact rfl | trivial | assumption | (simp only [inR]; omega) | omega | exact ⟨hc, by omega, by omega⟩ | exact ⟨hc, by omega, by omega, by omega⟩ | exact ⟨_, rfl⟩ | exact ⟨by omega, by omega⟩ | (simp only [List.length_append, List.length_cons, List.length_nil, room]; omega)))
            refine hK6 _ ?_
            clear hK6
            refine W_seq (fun K18 hK18 => ?_)
            refine W_region hT hG [] [0, 6] ?_
            rw [hnt]
            simp only [baseS, eq_self, implies_true, if_true, if_false, reduceIte, Nat.reduceBEq, Nat.reduceEqDiff, Nat.reduceLT, Nat.reduceAdd, reduceCtorEq, tyInt, tdInt, tyInts, tdInts, tyRdP, tdRdP, tyBox, tdBox, c_spec_l20Rd_pick, c_spec_l20Rd_odd, storeAV, setAll, FT.of, FT.setf, List.set_cons_zero, List.set_cons_succ, Option.isSome_some, Int.add_assoc, Int.reduceAdd, rowsAV, appAV, srcRows, srcFlat, reduceDIte, room, List.length_append, Nat.reduceLeDiff, elems, Int.mul_assoc]
            repeat (refine And.intro ?_ ?_; focus (first | exact ordP (by kernel_rfl) | with_reducible exact rfl | trivial | assumption | (simp only [inR]; omega) | omega | exact ⟨hc, by omega, by omega⟩ | exact ⟨hc, by omega, by omega, by omega⟩ | exact ⟨_, rfl⟩ | exact ⟨by omega, by omega⟩ | (simp only [List.length_append, List.length_cons, List.length_nil, room]; omega)))
            refine hK18 _ ?_
            clear hK18
            refine W_ret ?_
            simp only [thenQ, blockQ, loopQ, retR, retQ, reduceIte, Nat.reduceEqDiff]
            refine rr6 (retm 0 rfl rfl rfl rfl (.inl rfl) rfl) ?_
            refine ⟨by omega, by omega, fun hz => ?_⟩
            have h0 := hz0 hz.1
            have h1 := hz.2
            first
            | (exfalso; simp_all; done)
            | (refine ⟨?_, by first | rfl | omega⟩
               simp only [boxB, boxV, Bool.and_eq_true, decide_eq_true_eq]
               refine ⟨⟨⟨⟨by omega, by omega⟩, ⟨by omega, by omega⟩⟩, ⟨by omega, by omega⟩⟩, ⟨by omega, by omega⟩⟩)
          · try simp only [decide_eq_true_eq, decide_eq_false_iff_not, ne_eq, Decidable.not_not, Bool.not_eq_true', Bool.not_eq_false', Bool.or_eq_true, Bool.and_eq_true, Bool.or_eq_false_iff, Bool.and_eq_false_iff] at hc17
            refine W_region hT hG [] [0, 6, 7] ?_
            rw [hnt]
            simp only [baseS, eq_self, implies_true, if_true, if_false, reduceIte, Nat.reduceBEq, Nat.reduceEqDiff, Nat.reduceLT, Nat.reduceAdd, reduceCtorEq, tyInt, tdInt, tyInts, tdInts, tyRdP, tdRdP, tyBox, tdBox, c_spec_l20Rd_pick, c_spec_l20Rd_odd, storeAV, setAll, FT.of, FT.setf, List.set_cons_zero, List.set_cons_succ, Option.isSome_some, Int.add_assoc, Int.reduceAdd, rowsAV, appAV, srcRows, srcFlat, reduceDIte, room, List.length_append, Nat.reduceLeDiff, elems, Int.mul_assoc]
            repeat (refine And.intro ?_ ?_; focus (first | exact ordP (by kernel_rfl) | with_reducible exact rfl | trivial | assumption | (simp only [inR]; omega) | omega | exact ⟨hc, by omega, by omega⟩ | exact ⟨hc, by omega, by omega, by omega⟩ | exact ⟨_, rfl⟩ | exact ⟨by omega, by omega⟩ | (simp only [List.length_append, List.length_cons, List.length_nil, room]; omega)))
            refine hK6 _ ?_
            clear hK6
            refine W_seq (fun K19 hK19 => ?_)
            refine W_region hT hG [] [0, 6] ?_
            rw [hnt]
            simp only [baseS, eq_self, implies_true, if_true, if_false, reduceIte, Nat.reduceBEq, Nat.reduceEqDiff, Nat.reduceLT, Nat.reduceAdd, reduceCtorEq, tyInt, tdInt, tyInts, tdInts, tyRdP, tdRdP, tyBox, tdBox, c_spec_l20Rd_pick, c_spec_l20Rd_odd, storeAV, setAll, FT.of, FT.setf, List.set_cons_zero, List.set_cons_succ, Option.isSome_some, Int.add_assoc, Int.reduceAdd, rowsAV, appAV, srcRows, srcFlat, reduceDIte, room, List.length_append, Nat.reduceLeDiff, elems, Int.mul_assoc]
            repeat (refine And.intro ?_ ?_; focus (first | exact ordP (by kernel_rfl) | with_reducible exact rfl | trivial | assumption | (simp only [inR]; omega) | omega | exact ⟨hc, by omega, by omega⟩ | exact ⟨hc, by omega, by omega, by omega⟩ | exact ⟨_, rfl⟩ | exact ⟨by omega, by omega⟩ | (simp only [List.length_append, List.length_cons, List.length_nil, room]; omega)))
            refine hK19 _ ?_
            clear hK19
            refine W_ret ?_
            simp only [thenQ, blockQ, loopQ, retR, retQ, reduceIte, Nat.reduceEqDiff]
            refine rr6 (retm 0 rfl rfl rfl rfl (.inl rfl) rfl) ?_
            refine ⟨by omega, by omega, fun hz => ?_⟩
            have h0 := hz0 hz.1
            have h1 := hz.2
            first
            | (exfalso; simp_all; done)
            | (refine ⟨?_, by first | rfl | omega⟩
               simp only [boxB, boxV, Bool.and_eq_true, decide_eq_true_eq]
               refine ⟨⟨⟨⟨by omega, by omega⟩, ⟨by omega, by omega⟩⟩, ⟨by omega, by omega⟩⟩, ⟨by omega, by omega⟩⟩)
    · try simp only [decide_eq_true_eq, decide_eq_false_iff_not, ne_eq, Decidable.not_not, Bool.not_eq_true', Bool.not_eq_false', Bool.or_eq_true, Bool.and_eq_true, Bool.or_eq_false_iff, Bool.and_eq_false_iff] at hc8
      refine W_skip ?_
      simp only [thenQ, blockQ, loopQ, reduceIte, Nat.reduceEqDiff]
      refine hK6 _ ?_
      clear hK6
      refine W_seq (fun K20 hK20 => ?_)
      refine W_region hT hG [] [0, 6] ?_
      rw [hnt]
      simp only [baseS, eq_self, implies_true, if_true, if_false, reduceIte, Nat.reduceBEq, Nat.reduceEqDiff, Nat.reduceLT, Nat.reduceAdd, reduceCtorEq, tyInt, tdInt, tyInts, tdInts, tyRdP, tdRdP, tyBox, tdBox, c_spec_l20Rd_pick, c_spec_l20Rd_odd, storeAV, setAll, FT.of, FT.setf, List.set_cons_zero, List.set_cons_succ, Option.isSome_some, Int.add_assoc, Int.reduceAdd, rowsAV, appAV, srcRows, srcFlat, reduceDIte, room, List.length_append, Nat.reduceLeDiff, elems, Int.mul_assoc]
      repeat (refine And.intro ?_ ?_; focus (first | exact ordP (by kernel_rfl) | with_reducible exact rfl | trivial | assumption | (simp only [inR]; omega) | omega | exact ⟨hc, by omega, by omega⟩ | exact ⟨hc, by omega, by omega, by omega⟩ | exact ⟨_, rfl⟩ | exact ⟨by omega, by omega⟩ | (simp only [List.length_append, List.length_cons, List.length_nil, room]; omega)))
      refine hK20 _ ?_
      clear hK20
      refine W_ret ?_
      simp only [thenQ, blockQ, loopQ, retR, retQ, reduceIte, Nat.reduceEqDiff]
      refine rr6 (retm 0 rfl rfl rfl rfl (.inl rfl) rfl) ?_
      refine ⟨by omega, by omega, fun hz => ?_⟩
      have h0 := hz0 hz.1
      have h1 := hz.2
      first
      | (exfalso; simp_all; done)
      | (refine ⟨?_, by first | rfl | omega⟩
         simp only [boxB, boxV, Bool.and_eq_true, decide_eq_true_eq]
         refine ⟨⟨⟨⟨by omega, by omega⟩, ⟨by omega, by omega⟩⟩, ⟨by omega, by omega⟩⟩, ⟨by omega, by omega⟩⟩)
  · try simp only [decide_eq_true_eq, decide_eq_false_iff_not, ne_eq, Decidable.not_not, Bool.not_eq_true', Bool.not_eq_false', Bool.or_eq_true, Bool.and_eq_true, Bool.or_eq_false_iff, Bool.and_eq_false_iff] at hc5
    refine W_skip ?_
    simp only [thenQ, blockQ, loopQ, reduceIte, Nat.reduceEqDiff]
    refine hK3 _ ?_
    clear hK3
    refine W_seq (fun K21 hK21 => ?_)
    refine W_seq (fun K22 hK22 => ?_)
    refine W_region hT hG [] [0, 6, 7, 26] ?_
    rw [hnt]
    simp only [baseS, eq_self, implies_true, if_true, if_false, reduceIte, Nat.reduceBEq, Nat.reduceEqDiff, Nat.reduceLT, Nat.reduceAdd, reduceCtorEq, tyInt, tdInt, tyInts, tdInts, tyRdP, tdRdP, tyBox, tdBox, c_spec_l20Rd_pick, c_spec_l20Rd_odd, storeAV, setAll, FT.of, FT.setf, List.set_cons_zero, List.set_cons_succ, Option.isSome_some, Int.add_assoc, Int.reduceAdd, rowsAV, appAV, srcRows, srcFlat, reduceDIte, room, List.length_append, Nat.reduceLeDiff, elems, Int.mul_assoc]
    repeat (refine And.intro ?_ ?_; focus (first | exact ordP (by kernel_rfl) | with_reducible exact rfl | trivial | assumption | (simp only [inR]; omega) | omega | exact ⟨hc, by omega, by omega⟩ | exact ⟨hc, by omega, by omega, by omega⟩ | exact ⟨_, rfl⟩ | exact ⟨by omega, by omega⟩ | (simp only [List.length_append, List.length_cons, List.length_nil, room]; omega)))
    refine hK22 _ ?_
    clear hK22
    refine W_cond (b := _) rfl (fun hc23 => ?_) (fun hc23 => ?_)
    · try simp only [decide_eq_true_eq, decide_eq_false_iff_not, ne_eq, Decidable.not_not, Bool.not_eq_true', Bool.not_eq_false', Bool.or_eq_true, Bool.and_eq_true, Bool.or_eq_false_iff, Bool.and_eq_false_iff] at hc23
      refine W_seq (fun K24 hK24 => ?_)
      refine W_region hT hG [] [0, 6, 7, 28] ?_
      rw [hnt]
      simp only [baseS, eq_self, implies_true, if_true, if_false, reduceIte, Nat.reduceBEq, Nat.reduceEqDiff, Nat.reduceLT, Nat.reduceAdd, reduceCtorEq, tyInt, tdInt, tyInts, tdInts, tyRdP, tdRdP, tyBox, tdBox, c_spec_l20Rd_pick, c_spec_l20Rd_odd, storeAV, setAll, FT.of, FT.setf, List.set_cons_zero, List.set_cons_succ, Option.isSome_some, Int.add_assoc, Int.reduceAdd, rowsAV, appAV, srcRows, srcFlat, reduceDIte, room, List.length_append, Nat.reduceLeDiff, elems, Int.mul_assoc]
      repeat (refine And.intro ?_ ?_; focus (first | exact ordP (by kernel_rfl) | with_reducible exact rfl | trivial | assumption | (simp only [inR]; omega) | omega | exact ⟨hc, by omega, by omega⟩ | exact ⟨hc, by omega, by omega, by omega⟩ | exact ⟨_, rfl⟩ | exact ⟨by omega, by omega⟩ | (simp only [List.length_append, List.length_cons, List.length_nil, room]; omega)))
      refine hK24 _ ?_
      clear hK24
      refine W_block ?_
      refine W_seq (fun K25 hK25 => ?_)
      refine W_region hT hG [] [0, 6, 7, 28, 35] ?_
      rw [hnt]
      simp only [baseS, eq_self, implies_true, if_true, if_false, reduceIte, Nat.reduceBEq, Nat.reduceEqDiff, Nat.reduceLT, Nat.reduceAdd, reduceCtorEq, tyInt, tdInt, tyInts, tdInts, tyRdP, tdRdP, tyBox, tdBox, c_spec_l20Rd_pick, c_spec_l20Rd_odd, storeAV, setAll, FT.of, FT.setf, List.set_cons_zero, List.set_cons_succ, Option.isSome_some, Int.add_assoc, Int.reduceAdd, rowsAV, appAV, srcRows, srcFlat, reduceDIte, room, List.length_append, Nat.reduceLeDiff, elems, Int.mul_assoc]
      repeat (refine And.intro ?_ ?_; focus (first | exact ordP (by kernel_rfl) | with_reducible exact rfl | trivial | assumption | (simp only [inR]; omega) | omega | exact ⟨hc, by omega, by omega⟩ | exact ⟨hc, by omega, by omega, by omega⟩ | exact ⟨_, rfl⟩ | exact ⟨by omega, by omega⟩ | (simp only [List.length_append, List.length_cons, List.length_nil, room]; omega)))
      refine hK25 _ ?_
      clear hK25
      refine W_cond (b := _) rfl (fun hc26 => ?_) (fun hc26 => ?_)
      · try simp only [decide_eq_true_eq, decide_eq_false_iff_not, ne_eq, Decidable.not_not, Bool.not_eq_true', Bool.not_eq_false', Bool.or_eq_true, Bool.and_eq_true, Bool.or_eq_false_iff, Bool.and_eq_false_iff] at hc26
        refine W_region hT hG [] [0, 6, 7] ?_
        rw [hnt]
        simp only [baseS, eq_self, implies_true, if_true, if_false, reduceIte, Nat.reduceBEq, Nat.reduceEqDiff, Nat.reduceLT, Nat.reduceAdd, reduceCtorEq, tyInt, tdInt, tyInts, tdInts, tyRdP, tdRdP, tyBox, tdBox, c_spec_l20Rd_pick, c_spec_l20Rd_odd, storeAV, setAll, FT.of, FT.setf, List.set_cons_zero, List.set_cons_succ, Option.isSome_some, Int.add_assoc, Int.reduceAdd, rowsAV, appAV, srcRows, srcFlat, reduceDIte, room, List.length_append, Nat.reduceLeDiff, elems, Int.mul_assoc]
        repeat (refine And.intro ?_ ?_; focus (first | exact ordP (by kernel_rfl) | with_reducible exact rfl | trivial | assumption | (simp only [inR]; omega) | omega | exact ⟨hc, by omega, by omega⟩ | exact ⟨hc, by omega, by omega, by omega⟩ | exact ⟨_, rfl⟩ | exact ⟨by omega, by omega⟩ | (simp only [List.length_append, List.length_cons, List.length_nil, room]; omega)))
        refine hK21 _ ?_
        clear hK21
        refine W_seq (fun K27 hK27 => ?_)
        refine W_region hT hG [] [0, 6] ?_
        rw [hnt]
        simp only [baseS, eq_self, implies_true, if_true, if_false, reduceIte, Nat.reduceBEq, Nat.reduceEqDiff, Nat.reduceLT, Nat.reduceAdd, reduceCtorEq, tyInt, tdInt, tyInts, tdInts, tyRdP, tdRdP, tyBox, tdBox, c_spec_l20Rd_pick, c_spec_l20Rd_odd, storeAV, setAll, FT.of, FT.setf, List.set_cons_zero, List.set_cons_succ, Option.isSome_some, Int.add_assoc, Int.reduceAdd, rowsAV, appAV, srcRows, srcFlat, reduceDIte, room, List.length_append, Nat.reduceLeDiff, elems, Int.mul_assoc]
        repeat (refine And.intro ?_ ?_; focus (first | exact ordP (by kernel_rfl) | with_reducible exact rfl | trivial | assumption | (simp only [inR]; omega) | omega | exact ⟨hc, by omega, by omega⟩ | exact ⟨hc, by omega, by omega, by omega⟩ | exact ⟨_, rfl⟩ | exact ⟨by omega, by omega⟩ | (simp only [List.length_append, List.length_cons, List.length_nil, room]; omega)))
        refine hK27 _ ?_
        clear hK27
        refine W_ret ?_
        simp only [thenQ, blockQ, loopQ, retR, retQ, reduceIte, Nat.reduceEqDiff]
        refine rr6 (retm 0 rfl rfl rfl rfl (.inl rfl) rfl) ?_
        refine ⟨by omega, by omega, fun hz => ?_⟩
        have h0 := hz0 hz.1
        have h1 := hz.2
        first
        | (exfalso; simp_all; done)
        | (refine ⟨?_, by first | rfl | omega⟩
           simp only [boxB, boxV, Bool.and_eq_true, decide_eq_true_eq]
           refine ⟨⟨⟨⟨by omega, by omega⟩, ⟨by omega, by omega⟩⟩, ⟨by omega, by omega⟩⟩, ⟨by omega, by omega⟩⟩)
      · try simp only [decide_eq_true_eq, decide_eq_false_iff_not, ne_eq, Decidable.not_not, Bool.not_eq_true', Bool.not_eq_false', Bool.or_eq_true, Bool.and_eq_true, Bool.or_eq_false_iff, Bool.and_eq_false_iff] at hc26
        refine W_seq (fun K28 hK28 => ?_)
        refine W_region hT hG [] [0, 6, 7, 28, 43] ?_
        rw [hnt]
        simp only [baseS, eq_self, implies_true, if_true, if_false, reduceIte, Nat.reduceBEq, Nat.reduceEqDiff, Nat.reduceLT, Nat.reduceAdd, reduceCtorEq, tyInt, tdInt, tyInts, tdInts, tyRdP, tdRdP, tyBox, tdBox, c_spec_l20Rd_pick, c_spec_l20Rd_odd, storeAV, setAll, FT.of, FT.setf, List.set_cons_zero, List.set_cons_succ, Option.isSome_some, Int.add_assoc, Int.reduceAdd, rowsAV, appAV, srcRows, srcFlat, reduceDIte, room, List.length_append, Nat.reduceLeDiff, elems, Int.mul_assoc]
        repeat (refine And.intro ?_ ?_; focus (first | exact ordP (by kernel_rfl) | with_reducible exact rfl | trivial | assumption | (simp only [inR]; omega) | omega | exact ⟨hc, by omega, by omega⟩ | exact ⟨hc, by omega, by omega, by omega⟩ | exact ⟨_, rfl⟩ | exact ⟨by omega, by omega⟩ | (simp only [List.length_append, List.length_cons, List.length_nil, room]; omega)))
        refine hK28 _ ?_
        clear hK28
        refine W_cond (b := _) rfl (fun hc29 => ?_) (fun hc29 => ?_)
        · try simp only [decide_eq_true_eq, decide_eq_false_iff_not, ne_eq, Decidable.not_not, Bool.not_eq_true', Bool.not_eq_false', Bool.or_eq_true, Bool.and_eq_true, Bool.or_eq_false_iff, Bool.and_eq_false_iff] at hc29
          refine W_region hT hG [] [0, 6, 7] ?_
          rw [hnt]
          simp only [baseS, eq_self, implies_true, if_true, if_false, reduceIte, Nat.reduceBEq, Nat.reduceEqDiff, Nat.reduceLT, Nat.reduceAdd, reduceCtorEq, tyInt, tdInt, tyInts, tdInts, tyRdP, tdRdP, tyBox, tdBox, c_spec_l20Rd_pick, c_spec_l20Rd_odd, storeAV, setAll, FT.of, FT.setf, List.set_cons_zero, List.set_cons_succ, Option.isSome_some, Int.add_assoc, Int.reduceAdd, rowsAV, appAV, srcRows, srcFlat, reduceDIte, room, List.length_append, Nat.reduceLeDiff, elems, Int.mul_assoc]
          repeat (refine And.intro ?_ ?_; focus (first | exact ordP (by kernel_rfl) | with_reducible exact rfl | trivial | assumption | (simp only [inR]; omega) | omega | exact ⟨hc, by omega, by omega⟩ | exact ⟨hc, by omega, by omega, by omega⟩ | exact ⟨_, rfl⟩ | exact ⟨by omega, by omega⟩ | (simp only [List.length_append, List.length_cons, List.length_nil, room]; omega)))
          refine hK21 _ ?_
          clear hK21
          refine W_seq (fun K30 hK30 => ?_)
          refine W_region hT hG [] [0, 6] ?_
          rw [hnt]
          simp only [baseS, eq_self, implies_true, if_true, if_false, reduceIte, Nat.reduceBEq, Nat.reduceEqDiff, Nat.reduceLT, Nat.reduceAdd, reduceCtorEq, tyInt, tdInt, tyInts, tdInts, tyRdP, tdRdP, tyBox, tdBox, c_spec_l20Rd_pick, c_spec_l20Rd_odd, storeAV, setAll, FT.of, FT.setf, List.set_cons_zero, List.set_cons_succ, Option.isSome_some, Int.add_assoc, Int.reduceAdd, rowsAV, appAV, srcRows, srcFlat, reduceDIte, room, List.length_append, Nat.reduceLeDiff, elems, Int.mul_assoc]
          repeat (refine And.intro ?_ ?_; focus (first | exact ordP (by kernel_rfl) | with_reducible exact rfl | trivial | assumption | (simp only [inR]; omega) | omega | exact ⟨hc, by omega, by omega⟩ | exact ⟨hc, by omega, by omega, by omega⟩ | exact ⟨_, rfl⟩ | exact ⟨by omega, by omega⟩ | (simp only [List.length_append, List.length_cons, List.length_nil, room]; omega)))
          refine hK30 _ ?_
          clear hK30
          refine W_ret ?_
          simp only [thenQ, blockQ, loopQ, retR, retQ, reduceIte, Nat.reduceEqDiff]
          refine rr6 (retm 0 rfl rfl rfl rfl (.inl rfl) rfl) ?_
          refine ⟨by omega, by omega, fun hz => ?_⟩
          have h0 := hz0 hz.1
          have h1 := hz.2
          first
          | (exfalso; simp_all; done)
          | (refine ⟨?_, by first | rfl | omega⟩
             simp only [boxB, boxV, Bool.and_eq_true, decide_eq_true_eq]
             refine ⟨⟨⟨⟨by omega, by omega⟩, ⟨by omega, by omega⟩⟩, ⟨by omega, by omega⟩⟩, ⟨by omega, by omega⟩⟩)
        · try simp only [decide_eq_true_eq, decide_eq_false_iff_not, ne_eq, Decidable.not_not, Bool.not_eq_true', Bool.not_eq_false', Bool.or_eq_true, Bool.and_eq_true, Bool.or_eq_false_iff, Bool.and_eq_false_iff] at hc29
          refine W_seq (fun K31 hK31 => ?_)
          refine W_region hT hG [] [0, 6, 7, 51] ?_
          rw [hnt]
          simp only [baseS, eq_self, implies_true, if_true, if_false, reduceIte, Nat.reduceBEq, Nat.reduceEqDiff, Nat.reduceLT, Nat.reduceAdd, reduceCtorEq, tyInt, tdInt, tyInts, tdInts, tyRdP, tdRdP, tyBox, tdBox, c_spec_l20Rd_pick, c_spec_l20Rd_odd, storeAV, setAll, FT.of, FT.setf, List.set_cons_zero, List.set_cons_succ, Option.isSome_some, Int.add_assoc, Int.reduceAdd, rowsAV, appAV, srcRows, srcFlat, reduceDIte, room, List.length_append, Nat.reduceLeDiff, elems, Int.mul_assoc]
          repeat (refine And.intro ?_ ?_; focus (first | exact ordP (by kernel_rfl) | with_reducible exact rfl | trivial | assumption | (simp only [inR]; omega) | omega | exact ⟨hc, by omega, by omega⟩ | exact ⟨hc, by omega, by omega, by omega⟩ | exact ⟨_, rfl⟩ | exact ⟨by omega, by omega⟩ | (simp only [List.length_append, List.length_cons, List.length_nil, room]; omega)))
          refine hK31 _ ?_
          clear hK31
          refine W_cond (b := _) rfl (fun hc32 => ?_) (fun hc32 => ?_)
          · try simp only [decide_eq_true_eq, decide_eq_false_iff_not, ne_eq, Decidable.not_not, Bool.not_eq_true', Bool.not_eq_false', Bool.or_eq_true, Bool.and_eq_true, Bool.or_eq_false_iff, Bool.and_eq_false_iff] at hc32
            refine W_region hT hG [] [0, 6, 7] ?_
            rw [hnt]
            simp only [baseS, eq_self, implies_true, if_true, if_false, reduceIte, Nat.reduceBEq, Nat.reduceEqDiff, Nat.reduceLT, Nat.reduceAdd, reduceCtorEq, tyInt, tdInt, tyInts, tdInts, tyRdP, tdRdP, tyBox, tdBox, c_spec_l20Rd_pick, c_spec_l20Rd_odd, storeAV, setAll, FT.of, FT.setf, List.set_cons_zero, List.set_cons_succ, Option.isSome_some, Int.add_assoc, Int.reduceAdd, rowsAV, appAV, srcRows, srcFlat, reduceDIte, room, List.length_append, Nat.reduceLeDiff, elems, Int.mul_assoc]
            repeat (refine And.intro ?_ ?_; focus (first | exact ordP (by kernel_rfl) | with_reducible exact rfl | trivial | assumption | (simp only [inR]; omega) | omega | exact ⟨hc, by omega, by omega⟩ | exact ⟨hc, by omega, by omega, by omega⟩ | exact ⟨_, rfl⟩ | exact ⟨by omega, by omega⟩ | (simp only [List.length_append, List.length_cons, List.length_nil, room]; omega)))
            refine hK21 _ ?_
            clear hK21
            refine W_seq (fun K33 hK33 => ?_)
            refine W_region hT hG [] [0, 6] ?_
            rw [hnt]
            simp only [baseS, eq_self, implies_true, if_true, if_false, reduceIte, Nat.reduceBEq, Nat.reduceEqDiff, Nat.reduceLT, Nat.reduceAdd, reduceCtorEq, tyInt, tdInt, tyInts, tdInts, tyRdP, tdRdP, tyBox, tdBox, c_spec_l20Rd_pick, c_spec_l20Rd_odd, storeAV, setAll, FT.of, FT.setf, List.set_cons_zero, List.set_cons_succ, Option.isSome_some, Int.add_assoc, Int.reduceAdd, rowsAV, appAV, srcRows, srcFlat, reduceDIte, room, List.length_append, Nat.reduceLeDiff, elems, Int.mul_assoc]
            repeat (refine And.intro ?_ ?_; focus (first | exact ordP (by kernel_rfl) | with_reducible exact rfl | trivial | assumption | (simp only [inR]; omega) | omega | exact ⟨hc, by omega, by omega⟩ | exact ⟨hc, by omega, by omega, by omega⟩ | exact ⟨_, rfl⟩ | exact ⟨by omega, by omega⟩ | (simp only [List.length_append, List.length_cons, List.length_nil, room]; omega)))
            refine hK33 _ ?_
            clear hK33
            refine W_ret ?_
            simp only [thenQ, blockQ, loopQ, retR, retQ, reduceIte, Nat.reduceEqDiff]
            refine rr6 (retm 0 rfl rfl rfl rfl (.inl rfl) rfl) ?_
            refine ⟨by omega, by omega, fun hz => ?_⟩
            have h0 := hz0 hz.1
            have h1 := hz.2
            first
            | (exfalso; simp_all; done)
            | (refine ⟨?_, by first | rfl | omega⟩
               simp only [boxB, boxV, Bool.and_eq_true, decide_eq_true_eq]
               refine ⟨⟨⟨⟨by omega, by omega⟩, ⟨by omega, by omega⟩⟩, ⟨by omega, by omega⟩⟩, ⟨by omega, by omega⟩⟩)
          · try simp only [decide_eq_true_eq, decide_eq_false_iff_not, ne_eq, Decidable.not_not, Bool.not_eq_true', Bool.not_eq_false', Bool.or_eq_true, Bool.and_eq_true, Bool.or_eq_false_iff, Bool.and_eq_false_iff] at hc32
            refine W_region hT hG [] [0, 6, 7] ?_
            rw [hnt]
            simp only [baseS, eq_self, implies_true, if_true, if_false, reduceIte, Nat.reduceBEq, Nat.reduceEqDiff, Nat.reduceLT, Nat.reduceAdd, reduceCtorEq, tyInt, tdInt, tyInts, tdInts, tyRdP, tdRdP, tyBox, tdBox, c_spec_l20Rd_pick, c_spec_l20Rd_odd, storeAV, setAll, FT.of, FT.setf, List.set_cons_zero, List.set_cons_succ, Option.isSome_some, Int.add_assoc, Int.reduceAdd, rowsAV, appAV, srcRows, srcFlat, reduceDIte, room, List.length_append, Nat.reduceLeDiff, elems, Int.mul_assoc]
            repeat (refine And.intro ?_ ?_; focus (first | exact ordP (by kernel_rfl) | with_reducible exact rfl | trivial | assumption | (simp only [inR]; omega) | omega | exact ⟨hc, by omega, by omega⟩ | exact ⟨hc, by omega, by omega, by omega⟩ | exact ⟨_, rfl⟩ | exact ⟨by omega, by omega⟩ | (simp only [List.length_append, List.length_cons, List.length_nil, room]; omega)))
            refine hK21 _ ?_
            clear hK21
            refine W_seq (fun K34 hK34 => ?_)
            refine W_region hT hG [] [0, 6] ?_
            rw [hnt]
            simp only [baseS, eq_self, implies_true, if_true, if_false, reduceIte, Nat.reduceBEq, Nat.reduceEqDiff, Nat.reduceLT, Nat.reduceAdd, reduceCtorEq, tyInt, tdInt, tyInts, tdInts, tyRdP, tdRdP, tyBox, tdBox, c_spec_l20Rd_pick, c_spec_l20Rd_odd, storeAV, setAll, FT.of, FT.setf, List.set_cons_zero, List.set_cons_succ, Option.isSome_some, Int.add_assoc, Int.reduceAdd, rowsAV, appAV, srcRows, srcFlat, reduceDIte, room, List.length_append, Nat.reduceLeDiff, elems, Int.mul_assoc]
            repeat (refine And.intro ?_ ?_; focus (first | exact ordP (by kernel_rfl) | with_reducible exact rfl | trivial | assumption | (simp only [inR]; omega) | omega | exact ⟨hc, by omega, by omega⟩ | exact ⟨hc, by omega, by omega, by omega⟩ | exact ⟨_, rfl⟩ | exact ⟨by omega, by omega⟩ | (simp only [List.length_append, List.length_cons, List.length_nil, room]; omega)))
            refine hK34 _ ?_
            clear hK34
            refine W_ret ?_
            simp only [thenQ, blockQ, loopQ, retR, retQ, reduceIte, Nat.reduceEqDiff]
            refine rr6 (retm 0 rfl rfl rfl rfl (.inl rfl) rfl) ?_
            refine ⟨by omega, by omega, fun hz => ?_⟩
            have h0 := hz0 hz.1
            have h1 := hz.2
            first
            | (exfalso; simp_all; done)
            | (refine ⟨?_, by first | rfl | omega⟩
               simp only [boxB, boxV, Bool.and_eq_true, decide_eq_true_eq]
               refine ⟨⟨⟨⟨by omega, by omega⟩, ⟨by omega, by omega⟩⟩, ⟨by omega, by omega⟩⟩, ⟨by omega, by omega⟩⟩)
    · try simp only [decide_eq_true_eq, decide_eq_false_iff_not, ne_eq, Decidable.not_not, Bool.not_eq_true', Bool.not_eq_false', Bool.or_eq_true, Bool.and_eq_true, Bool.or_eq_false_iff, Bool.and_eq_false_iff] at hc23
      refine W_skip ?_
      simp only [thenQ, blockQ, loopQ, reduceIte, Nat.reduceEqDiff]
      refine hK21 _ ?_
      clear hK21
      refine W_seq (fun K35 hK35 => ?_)
      refine W_region hT hG [] [0, 6] ?_
      rw [hnt]
      simp only [baseS, eq_self, implies_true, if_true, if_false, reduceIte, Nat.reduceBEq, Nat.reduceEqDiff, Nat.reduceLT, Nat.reduceAdd, reduceCtorEq, tyInt, tdInt, tyInts, tdInts, tyRdP, tdRdP, tyBox, tdBox, c_spec_l20Rd_pick, c_spec_l20Rd_odd, storeAV, setAll, FT.of, FT.setf, List.set_cons_zero, List.set_cons_succ, Option.isSome_some, Int.add_assoc, Int.reduceAdd, rowsAV, appAV, srcRows, srcFlat, reduceDIte, room, List.length_append, Nat.reduceLeDiff, elems, Int.mul_assoc]
      repeat (refine And.intro ?_ ?_; focus (first | exact ordP (by kernel_rfl) | with_reducible exact rfl | trivial | assumption | (simp only [inR]; omega) | omega | exact ⟨hc, by omega, by omega⟩ | exact ⟨hc, by omega, by omega, by omega⟩ | exact ⟨_, rfl⟩ | exact ⟨by omega, by omega⟩ | (simp only [List.length_append, List.length_cons, List.length_nil, room]; omega)))
      refine hK35 _ ?_
      clear hK35
      refine W_ret ?_
      simp only [thenQ, blockQ, loopQ, retR, retQ, reduceIte, Nat.reduceEqDiff]
      refine rr6 (retm 0 rfl rfl rfl rfl (.inl rfl) rfl) ?_
      refine ⟨by omega, by omega, fun hz => ?_⟩
      have h0 := hz0 hz.1
      have h1 := hz.2
      first
      | (exfalso; simp_all; done)
      | (refine ⟨?_, by first | rfl | omega⟩
         simp only [boxB, boxV, Bool.and_eq_true, decide_eq_true_eq]
         refine ⟨⟨⟨⟨by omega, by omega⟩, ⟨by omega, by omega⟩⟩, ⟨by omega, by omega⟩⟩, ⟨by omega, by omega⟩⟩)

def c_spec_l20BoxesZR : List AV → List Own → Option (Prop × (CRes → Prop)) := fun xs os => match xs, os with
    | [.int m, .int n], [.var [.rs .u8 b, .int p]] => some (codeOK b ∧ (0 ≤ p ∧ p ≤ 900000) ∧ (0 ≤ m ∧ m ≤ 10) ∧ (0 ≤ n ∧ n ≤ 1000), fun R => ∃ (bs : List BoxD) (q : Int), R = ⟨True, .sl 0, [.sl 81 .box bs], [.var [.rs .u8 b, .int q]]⟩ ∧ (bs.length ≤ 12 ∧ (p ≤ q ∧ q ≤ p + 100) ∧ (n = 0 → boxesB bs = true)))
    | _, _ => none
def c_spec_l20BoxesZ : Ctr := ⟨[.m, .v .p, .v .p], true, fun _ _ => none, some c_spec_l20BoxesZR⟩
theorem m_spec_l20BoxesZ : Meets Try.prog 118 c_spec_l20BoxesZ := by
  refine meetsR_of (T := tyT) tyOK Try.func118 (by rfl) rfl (by decide) ?_
  intro args owns pre S hrun hpre
  simp only [c_spec_l20BoxesZR] at hrun
  split at hrun
  case h_2 => cases hrun
  rename_i m n b p
  cases hrun
  try dsimp only at hpre
  refine ⟨⟨[(0, .op 0 0), (1, .int m), (2, .int n)], [(0, some (.var [.rs .u8 b, .int p]))], 47⟩, rfl, fun E hP hnt hnp => ?_⟩
  replace hnt : E.nt = 47 := hnt
  replace hnp : E.np = 3 := hnp
  have hT : ∀ t d, tyT t = some d → TyOK E.P t d := hP ▸ tyOK
  have hG : ∀ f C, Γof [(59, c_spec_l20Rd_pick), (60, c_spec_l20Rd_odd), (147, c_spec_l20BoxZ)] f = some C → Meets E.P f C := hΓof (by rw [hP]; exact ⟨m_spec_l20Rd_pick, m_spec_l20Rd_odd, m_spec_l20BoxZ, trivial⟩)
  try simp only [show Try.f118.ntmps = 47 from rfl]
  have hc := hpre.1
  have hp := hpre.2.1
  have hm := hpre.2.2.1
  have hn := hpre.2.2.2
  have j0 := pick_box (b := b) (p := p) (n := m + 1) (by omega)
  have hz0 : n = 0 → ∀ q, oddB b q n = false := fun h q => by rw [h]; exact oddB_0 _ _
  refine W_seq (fun K1 hK1 => ?_)
  refine W_region hT hG [] [0, 1, 2] ?_
  rw [hnt]
  simp only [baseS, eq_self, implies_true, if_true, if_false, reduceIte, Nat.reduceBEq, Nat.reduceEqDiff, Nat.reduceLT, Nat.reduceAdd, reduceCtorEq, relC, callOK0, callOK1, fzE, c_spec_l20BoxZR, tyInt, tdInt, tyBoxes, tdBoxes, tyRdP, tdRdP, tyBox, tdBox, c_spec_l20Rd_pick, c_spec_l20Rd_odd, c_spec_l20BoxZ, storeAV, setAll, FT.of, FT.setf, List.set_cons_zero, List.set_cons_succ, Option.isSome_some, Int.add_assoc, Int.reduceAdd, rowsAV, appAV, srcRows, srcFlat, reduceDIte, room, List.length_append, Nat.reduceLeDiff, elems, Int.mul_assoc]
  repeat (refine And.intro ?_ ?_; focus (first | exact ordP (by kernel_rfl) | with_reducible exact rfl | trivial | assumption | (simp only [inR]; omega) | omega | exact ⟨hc, by omega, by omega⟩ | exact ⟨hc, by omega, by omega, by omega⟩ | exact ⟨_, rfl⟩ | exact ⟨by omega, by omega⟩ | (simp only [List.length_append, List.length_cons, List.length_nil, room]; omega)))
  refine hK1 _ ?_
  clear hK1
  refine W_seq (fun K2 hK2 => ?_)
  refine W_region hT hG [] [0, 1, 2, 7] ?_
  rw [hnt]
  simp only [baseS, eq_self, implies_true, if_true, if_false, reduceIte, Nat.reduceBEq, Nat.reduceEqDiff, Nat.reduceLT, Nat.reduceAdd, reduceCtorEq, relC, callOK0, callOK1, fzE, c_spec_l20BoxZR, tyInt, tdInt, tyBoxes, tdBoxes, tyRdP, tdRdP, tyBox, tdBox, c_spec_l20Rd_pick, c_spec_l20Rd_odd, c_spec_l20BoxZ, storeAV, setAll, FT.of, FT.setf, List.set_cons_zero, List.set_cons_succ, Option.isSome_some, Int.add_assoc, Int.reduceAdd, rowsAV, appAV, srcRows, srcFlat, reduceDIte, room, List.length_append, Nat.reduceLeDiff, elems, Int.mul_assoc]
  repeat (refine And.intro ?_ ?_; focus (first | exact ordP (by kernel_rfl) | with_reducible exact rfl | trivial | assumption | (simp only [inR]; omega) | omega | exact ⟨hc, by omega, by omega⟩ | exact ⟨hc, by omega, by omega, by omega⟩ | exact ⟨_, rfl⟩ | exact ⟨by omega, by omega⟩ | (simp only [List.length_append, List.length_cons, List.length_nil, room]; omega)))
  refine hK2 _ ?_
  clear hK2
  refine W_seq (fun K3 hK3 => ?_)
  refine W_seq (fun K4 hK4 => ?_)
  refine W_region hT hG [] [0, 2, 7, 8] ?_
  rw [hnt]
  simp only [baseS, eq_self, implies_true, if_true, if_false, reduceIte, Nat.reduceBEq, Nat.reduceEqDiff, Nat.reduceLT, Nat.reduceAdd, reduceCtorEq, relC, callOK0, callOK1, fzE, c_spec_l20BoxZR, tyInt, tdInt, tyBoxes, tdBoxes, tyRdP, tdRdP, tyBox, tdBox, c_spec_l20Rd_pick, c_spec_l20Rd_odd, c_spec_l20BoxZ, storeAV, setAll, FT.of, FT.setf, List.set_cons_zero, List.set_cons_succ, Option.isSome_some, Int.add_assoc, Int.reduceAdd, rowsAV, appAV, srcRows, srcFlat, reduceDIte, room, List.length_append, Nat.reduceLeDiff, elems, Int.mul_assoc]
  repeat (refine And.intro ?_ ?_; focus (first | exact ordP (by kernel_rfl) | with_reducible exact rfl | trivial | assumption | (simp only [inR]; omega) | omega | exact ⟨hc, by omega, by omega⟩ | exact ⟨hc, by omega, by omega, by omega⟩ | exact ⟨_, rfl⟩ | exact ⟨by omega, by omega⟩ | (simp only [List.length_append, List.length_cons, List.length_nil, room]; omega)))
  refine hK4 _ ?_
  clear hK4
  refine W_block ?_
  refine W_loop (α := Int × List BoxD × Int) [(0, .var), (2, .as), (7, .own 81 .box), (8, .as)] (fun x => ⟨[(0, .op 0 0), (2, .int n), (7, .sl 7), (8, .int x.1)], [(0, some (.var [.rs .u8 b, .int (x.2.2)])), (7, some (.sl 81 .box x.2.1))], 47⟩) (fun x => (0 ≤ x.1 ∧ x.1 ≤ 10) ∧ ((x.2.1.length : Int) + x.1 ≤ 10) ∧ (p ≤ x.2.2 ∧ x.2.2 ≤ p + 1 + 8 * (10 - x.1)) ∧ ∀ j, j < x.2.1.length → boxB (bx x.2.1 j) = true ∧ (bx x.2.1 j).id = (j : Int) + 1) (fun x => x.1.toNat) (pickV b p (m + 1), [], p + 1) ?_ ?_ ?_
  · (try simp only [hnt, hnp]); rfl
  · exact ⟨by dsimp only; omega, by simp only [List.length_nil]; omega, by dsimp only; omega, fun j hj => by simp at hj⟩
  rintro ⟨k, out, q⟩ ⟨hk, hl, hq, hb⟩
  dsimp only at hk hl hq hb ⊢
  have ho := oddP_box q n
  refine W_seq (fun K6 hK6 => ?_)
  refine W_seq (fun K7 hK7 => ?_)
  refine W_region hT hG [] [0, 2, 7, 8, 15] ?_
  rw [hnt]
  simp only [baseS, eq_self, implies_true, if_true, if_false, reduceIte, Nat.reduceBEq, Nat.reduceEqDiff, Nat.reduceLT, Nat.reduceAdd, reduceCtorEq, relC, callOK0, callOK1, fzE, c_spec_l20BoxZR, tyInt, tdInt, tyBoxes, tdBoxes, tyRdP, tdRdP, tyBox, tdBox, c_spec_l20Rd_pick, c_spec_l20Rd_odd, c_spec_l20BoxZ, storeAV, setAll, FT.of, FT.setf, List.set_cons_zero, List.set_cons_succ, Option.isSome_some, Int.add_assoc, Int.reduceAdd, rowsAV, appAV, srcRows, srcFlat, reduceDIte, room, List.length_append, Nat.reduceLeDiff, elems, Int.mul_assoc]
  repeat (refine And.intro ?_ ?_; focus (first | exact ordP (by kernel_rfl) | with_reducible exact rfl | trivial | assumption | (simp only [inR]; omega) | omega | exact ⟨hc, by omega, by omega⟩ | exact ⟨hc, by omega, by omega, by omega⟩ | exact ⟨_, rfl⟩ | exact ⟨by omega, by omega⟩ | (simp only [List.length_append, List.length_cons, List.length_nil, room]; omega)))
  refine hK7 _ ?_
  clear hK7
  refine W_cond (b := _) rfl (fun hc8 => ?_) (fun hc8 => ?_)
  · try simp only [decide_eq_true_eq, decide_eq_false_iff_not, ne_eq, Decidable.not_not, Bool.not_eq_true', Bool.not_eq_false', Bool.or_eq_true, Bool.and_eq_true, Bool.or_eq_false_iff, Bool.and_eq_false_iff] at hc8
    refine W_skip ?_
    simp only [thenQ, blockQ, loopQ, reduceIte, Nat.reduceEqDiff]
    refine hK6 _ ?_
    clear hK6
    refine W_seq (fun K9 hK9 => ?_)
    refine W_block ?_
    refine W_region hT hG [] [0, 2, 7, 8] ?_
    rw [hnt]
    simp only [baseS, eq_self, implies_true, if_true, if_false, reduceIte, Nat.reduceBEq, Nat.reduceEqDiff, Nat.reduceLT, Nat.reduceAdd, reduceCtorEq, relC, callOK0, callOK1, fzE, c_spec_l20BoxZR, tyInt, tdInt, tyBoxes, tdBoxes, tyRdP, tdRdP, tyBox, tdBox, c_spec_l20Rd_pick, c_spec_l20Rd_odd, c_spec_l20BoxZ, storeAV, setAll, FT.of, FT.setf, List.set_cons_zero, List.set_cons_succ, Option.isSome_some, Int.add_assoc, Int.reduceAdd, rowsAV, appAV, srcRows, srcFlat, reduceDIte, room, List.length_append, Nat.reduceLeDiff, elems, Int.mul_assoc]
    repeat (refine And.intro ?_ ?_; focus (first | exact ordP (by kernel_rfl) | with_reducible exact rfl | trivial | assumption | (simp only [inR]; omega) | omega | exact ⟨hc, by omega, by omega⟩ | exact ⟨hc, by omega, by omega, by omega⟩ | exact ⟨_, rfl⟩ | exact ⟨by omega, by omega⟩ | (simp only [List.length_append, List.length_cons, List.length_nil, room]; omega)))
    rintro _ ⟨x1, x2, x3, x4, x5, q1, rfl, hq1, hq2, hbx1⟩
    simp only [baseS, eq_self, implies_true, if_true, if_false, reduceIte, Nat.reduceBEq, Nat.reduceEqDiff, Nat.reduceLT, Nat.reduceAdd, reduceCtorEq, relC, callOK0, callOK1, fzE, c_spec_l20BoxZR, tyInt, tdInt, tyBoxes, tdBoxes, tyRdP, tdRdP, tyBox, tdBox, c_spec_l20Rd_pick, c_spec_l20Rd_odd, c_spec_l20BoxZ, storeAV, setAll, FT.of, FT.setf, List.set_cons_zero, List.set_cons_succ, Option.isSome_some, Int.add_assoc, Int.reduceAdd, rowsAV, appAV, srcRows, srcFlat, reduceDIte, room, List.length_append, Nat.reduceLeDiff, elems, Int.mul_assoc]
    repeat (refine And.intro ?_ ?_; focus (first | exact ordP (by kernel_rfl) | with_reducible exact rfl | trivial | assumption | (simp only [inR]; omega) | omega | exact ⟨hc, by omega, by omega⟩ | exact ⟨hc, by omega, by omega, by omega⟩ | exact ⟨_, rfl⟩ | exact ⟨by omega, by omega⟩ | (simp only [List.length_append, List.length_cons, List.length_nil, room]; omega)))
    refine hK9 _ ?_
    clear hK9
    refine W_region hT hG [] [0, 2, 7, 8] ?_
    rw [hnt]
    simp only [baseS, eq_self, implies_true, if_true, if_false, reduceIte, Nat.reduceBEq, Nat.reduceEqDiff, Nat.reduceLT, Nat.reduceAdd, reduceCtorEq, relC, callOK0, callOK1, fzE, c_spec_l20BoxZR, tyInt, tdInt, tyBoxes, tdBoxes, tyRdP, tdRdP, tyBox, tdBox, c_spec_l20Rd_pick, c_spec_l20Rd_odd, c_spec_l20BoxZ, storeAV, setAll, FT.of, FT.setf, List.set_cons_zero, List.set_cons_succ, Option.isSome_some, Int.add_assoc, Int.reduceAdd, rowsAV, appAV, srcRows, srcFlat, reduceDIte, room, List.length_append, Nat.reduceLeDiff, elems, Int.mul_assoc]
    repeat (refine And.intro ?_ ?_; focus (first | exact ordP (by kernel_rfl) | with_reducible exact rfl | trivial | assumption | (simp only [inR]; omega) | omega | exact ⟨hc, by omega, by omega⟩ | exact ⟨hc, by omega, by omega, by omega⟩ | exact ⟨_, rfl⟩ | exact ⟨by omega, by omega⟩ | (simp only [List.length_append, List.length_cons, List.length_nil, room]; omega)))
    have hbb := hbx1 (by omega)
    refine ⟨(k - 1, out ++ [⟨x1, x2, x3, x4, x5⟩], q1), (by (try simp only [hnt, hnp]); rfl), ⟨by dsimp only; omega, by simp only [List.length_append, List.length_cons, List.length_nil]; omega, by dsimp only; omega, run_step hb hbb.1 (by rw [hbb.2])⟩, by dsimp only; omega⟩
  · try simp only [decide_eq_true_eq, decide_eq_false_iff_not, ne_eq, Decidable.not_not, Bool.not_eq_true', Bool.not_eq_false', Bool.or_eq_true, Bool.and_eq_true, Bool.or_eq_false_iff, Bool.and_eq_false_iff] at hc8
    refine W_exit ?_
    simp only [thenQ, blockQ, loopQ, reduceIte, Nat.reduceEqDiff]
    refine hK3 _ ?_
    clear hK3
    refine W_seq (fun K10 hK10 => ?_)
    refine W_seq (fun K11 hK11 => ?_)
    refine W_region hT hG [] [0, 7, 28] ?_
    rw [hnt]
    simp only [baseS, eq_self, implies_true, if_true, if_false, reduceIte, Nat.reduceBEq, Nat.reduceEqDiff, Nat.reduceLT, Nat.reduceAdd, reduceCtorEq, relC, callOK0, callOK1, fzE, c_spec_l20BoxZR, tyInt, tdInt, tyBoxes, tdBoxes, tyRdP, tdRdP, tyBox, tdBox, c_spec_l20Rd_pick, c_spec_l20Rd_odd, c_spec_l20BoxZ, storeAV, setAll, FT.of, FT.setf, List.set_cons_zero, List.set_cons_succ, Option.isSome_some, Int.add_assoc, Int.reduceAdd, rowsAV, appAV, srcRows, srcFlat, reduceDIte, room, List.length_append, Nat.reduceLeDiff, elems, Int.mul_assoc]
    repeat (refine And.intro ?_ ?_; focus (first | exact ordP (by kernel_rfl) | with_reducible exact rfl | trivial | assumption | (simp only [inR]; omega) | omega | exact ⟨hc, by omega, by omega⟩ | exact ⟨hc, by omega, by omega, by omega⟩ | exact ⟨_, rfl⟩ | exact ⟨by omega, by omega⟩ | (simp only [List.length_append, List.length_cons, List.length_nil, room]; omega)))
    refine hK11 _ ?_
    clear hK11
    refine W_cond (b := _) rfl (fun hc12 => ?_) (fun hc12 => ?_)
    · try simp only [decide_eq_true_eq, decide_eq_false_iff_not, ne_eq, Decidable.not_not, Bool.not_eq_true', Bool.not_eq_false', Bool.or_eq_true, Bool.and_eq_true, Bool.or_eq_false_iff, Bool.and_eq_false_iff] at hc12
      refine W_seq (fun K13 hK13 => ?_)
      refine W_region hT hG [] [0, 7, 30] ?_
      rw [hnt]
      simp only [baseS, eq_self, implies_true, if_true, if_false, reduceIte, Nat.reduceBEq, Nat.reduceEqDiff, Nat.reduceLT, Nat.reduceAdd, reduceCtorEq, relC, callOK0, callOK1, fzE, c_spec_l20BoxZR, tyInt, tdInt, tyBoxes, tdBoxes, tyRdP, tdRdP, tyBox, tdBox, c_spec_l20Rd_pick, c_spec_l20Rd_odd, c_spec_l20BoxZ, storeAV, setAll, FT.of, FT.setf, List.set_cons_zero, List.set_cons_succ, Option.isSome_some, Int.add_assoc, Int.reduceAdd, rowsAV, appAV, srcRows, srcFlat, reduceDIte, room, List.length_append, Nat.reduceLeDiff, elems, Int.mul_assoc]
      repeat (refine And.intro ?_ ?_; focus (first | exact ordP (by kernel_rfl) | with_reducible exact rfl | trivial | assumption | (simp only [inR]; omega) | omega | exact ⟨hc, by omega, by omega⟩ | exact ⟨hc, by omega, by omega, by omega⟩ | exact ⟨_, rfl⟩ | exact ⟨by omega, by omega⟩ | (simp only [List.length_append, List.length_cons, List.length_nil, room]; omega)))
      refine hK13 _ ?_
      clear hK13
      refine W_block ?_
      refine W_seq (fun K14 hK14 => ?_)
      refine W_region hT hG [] [0, 7, 30, 36] ?_
      rw [hnt]
      simp only [baseS, eq_self, implies_true, if_true, if_false, reduceIte, Nat.reduceBEq, Nat.reduceEqDiff, Nat.reduceLT, Nat.reduceAdd, reduceCtorEq, relC, callOK0, callOK1, fzE, c_spec_l20BoxZR, tyInt, tdInt, tyBoxes, tdBoxes, tyRdP, tdRdP, tyBox, tdBox, c_spec_l20Rd_pick, c_spec_l20Rd_odd, c_spec_l20BoxZ, storeAV, setAll, FT.of, FT.setf, List.set_cons_zero, List.set_cons_succ, Option.isSome_some, Int.add_assoc, Int.reduceAdd, rowsAV, appAV, srcRows, srcFlat, reduceDIte, room, List.length_append, Nat.reduceLeDiff, elems, Int.mul_assoc]
      repeat (refine And.intro ?_ ?_; focus (first | exact ordP (by kernel_rfl) | with_reducible exact rfl | trivial | assumption | (simp only [inR]; omega) | omega | exact ⟨hc, by omega, by omega⟩ | exact ⟨hc, by omega, by omega, by omega⟩ | exact ⟨_, rfl⟩ | exact ⟨by omega, by omega⟩ | (simp only [List.length_append, List.length_cons, List.length_nil, room]; omega)))
      refine hK14 _ ?_
      clear hK14
      refine W_cond (b := _) rfl (fun hc15 => ?_) (fun hc15 => ?_)
      · try simp only [decide_eq_true_eq, decide_eq_false_iff_not, ne_eq, Decidable.not_not, Bool.not_eq_true', Bool.not_eq_false', Bool.or_eq_true, Bool.and_eq_true, Bool.or_eq_false_iff, Bool.and_eq_false_iff] at hc15
        refine W_seq (fun K16 hK16 => ?_)
        refine W_region hT hG [] [0, 6] ?_
        rw [hnt]
        simp only [baseS, eq_self, implies_true, if_true, if_false, reduceIte, Nat.reduceBEq, Nat.reduceEqDiff, Nat.reduceLT, Nat.reduceAdd, reduceCtorEq, relC, callOK0, callOK1, fzE, c_spec_l20BoxZR, tyInt, tdInt, tyBoxes, tdBoxes, tyRdP, tdRdP, tyBox, tdBox, c_spec_l20Rd_pick, c_spec_l20Rd_odd, c_spec_l20BoxZ, storeAV, setAll, FT.of, FT.setf, List.set_cons_zero, List.set_cons_succ, Option.isSome_some, Int.add_assoc, Int.reduceAdd, rowsAV, appAV, srcRows, srcFlat, reduceDIte, room, List.length_append, Nat.reduceLeDiff, elems, Int.mul_assoc]
        repeat (refine And.intro ?_ ?_; focus (first | exact ordP (by kernel_rfl) | with_reducible exact rfl | trivial | assumption | (simp only [inR]; omega) | omega | exact ⟨hc, by omega, by omega⟩ | exact ⟨hc, by omega, by omega, by omega⟩ | exact ⟨_, rfl⟩ | exact ⟨by omega, by omega⟩ | (simp only [List.length_append, List.length_cons, List.length_nil, room]; omega)))
        refine hK16 _ ?_
        clear hK16
        refine W_re [(0, .var), (6, .own 81 .box)] (by (try simp only [hnt, hnp]); rfl) ?_
        refine W_ret ?_
        simp only [thenQ, blockQ, loopQ, retR, retQ, reduceIte, Nat.reduceEqDiff]
        refine rr2 (retmn 0 6 rfl rfl rfl (by decide) rfl rfl (.inl rfl) rfl) ?_
        refine ⟨?_, ⟨by omega, by omega⟩, fun hz => ?_⟩
        · first | (simp; done) | (simp only [List.length_append, List.length_cons, List.length_nil]; omega) | omega
        · have h0 := hz0 hz
          first
          | (exact boxes_run hb (by omega))
          | (exfalso; simp_all; done)
      · try simp only [decide_eq_true_eq, decide_eq_false_iff_not, ne_eq, Decidable.not_not, Bool.not_eq_true', Bool.not_eq_false', Bool.or_eq_true, Bool.and_eq_true, Bool.or_eq_false_iff, Bool.and_eq_false_iff] at hc15
        refine W_seq (fun K17 hK17 => ?_)
        refine W_region hT hG [] [0, 7, 39] ?_
        rw [hnt]
        simp only [baseS, eq_self, implies_true, if_true, if_false, reduceIte, Nat.reduceBEq, Nat.reduceEqDiff, Nat.reduceLT, Nat.reduceAdd, reduceCtorEq, relC, callOK0, callOK1, fzE, c_spec_l20BoxZR, tyInt, tdInt, tyBoxes, tdBoxes, tyRdP, tdRdP, tyBox, tdBox, c_spec_l20Rd_pick, c_spec_l20Rd_odd, c_spec_l20BoxZ, storeAV, setAll, FT.of, FT.setf, List.set_cons_zero, List.set_cons_succ, Option.isSome_some, Int.add_assoc, Int.reduceAdd, rowsAV, appAV, srcRows, srcFlat, reduceDIte, room, List.length_append, Nat.reduceLeDiff, elems, Int.mul_assoc]
        repeat (refine And.intro ?_ ?_; focus (first | exact ordP (by kernel_rfl) | with_reducible exact rfl | trivial | assumption | (simp only [inR]; omega) | omega | exact ⟨hc, by omega, by omega⟩ | exact ⟨hc, by omega, by omega, by omega⟩ | exact ⟨_, rfl⟩ | exact ⟨by omega, by omega⟩ | (simp only [List.length_append, List.length_cons, List.length_nil, room]; omega)))
        refine hK17 _ ?_
        clear hK17
        refine W_cond (b := _) rfl (fun hc18 => ?_) (fun hc18 => ?_)
        · try simp only [decide_eq_true_eq, decide_eq_false_iff_not, ne_eq, Decidable.not_not, Bool.not_eq_true', Bool.not_eq_false', Bool.or_eq_true, Bool.and_eq_true, Bool.or_eq_false_iff, Bool.and_eq_false_iff] at hc18
          refine W_seq (fun K19 hK19 => ?_)
          refine W_region hT hG [] [0, 6] ?_
          rw [hnt]
          simp only [baseS, eq_self, implies_true, if_true, if_false, reduceIte, Nat.reduceBEq, Nat.reduceEqDiff, Nat.reduceLT, Nat.reduceAdd, reduceCtorEq, relC, callOK0, callOK1, fzE, c_spec_l20BoxZR, tyInt, tdInt, tyBoxes, tdBoxes, tyRdP, tdRdP, tyBox, tdBox, c_spec_l20Rd_pick, c_spec_l20Rd_odd, c_spec_l20BoxZ, storeAV, setAll, FT.of, FT.setf, List.set_cons_zero, List.set_cons_succ, Option.isSome_some, Int.add_assoc, Int.reduceAdd, rowsAV, appAV, srcRows, srcFlat, reduceDIte, room, List.length_append, Nat.reduceLeDiff, elems, Int.mul_assoc]
          repeat (refine And.intro ?_ ?_; focus (first | exact ordP (by kernel_rfl) | with_reducible exact rfl | trivial | assumption | (simp only [inR]; omega) | omega | exact ⟨hc, by omega, by omega⟩ | exact ⟨hc, by omega, by omega, by omega⟩ | exact ⟨_, rfl⟩ | exact ⟨by omega, by omega⟩ | (simp only [List.length_append, List.length_cons, List.length_nil, room]; omega)))
          rintro _ ⟨x1, x2, x3, x4, x5, q1, rfl, hq1, hq2, hbx1⟩
          simp only [baseS, eq_self, implies_true, if_true, if_false, reduceIte, Nat.reduceBEq, Nat.reduceEqDiff, Nat.reduceLT, Nat.reduceAdd, reduceCtorEq, relC, callOK0, callOK1, fzE, c_spec_l20BoxZR, tyInt, tdInt, tyBoxes, tdBoxes, tyRdP, tdRdP, tyBox, tdBox, c_spec_l20Rd_pick, c_spec_l20Rd_odd, c_spec_l20BoxZ, storeAV, setAll, FT.of, FT.setf, List.set_cons_zero, List.set_cons_succ, Option.isSome_some, Int.add_assoc, Int.reduceAdd, rowsAV, appAV, srcRows, srcFlat, reduceDIte, room, List.length_append, Nat.reduceLeDiff, elems, Int.mul_assoc]
          repeat (refine And.intro ?_ ?_; focus (first | exact ordP (by kernel_rfl) | with_reducible exact rfl | trivial | assumption | (simp only [inR]; omega) | omega | exact ⟨hc, by omega, by omega⟩ | exact ⟨hc, by omega, by omega, by omega⟩ | exact ⟨_, rfl⟩ | exact ⟨by omega, by omega⟩ | (simp only [List.length_append, List.length_cons, List.length_nil, room]; omega)))
          refine hK19 _ ?_
          clear hK19
          refine W_re [(0, .var), (6, .own 81 .box)] (by (try simp only [hnt, hnp]); rfl) ?_
          refine W_ret ?_
          simp only [thenQ, blockQ, loopQ, retR, retQ, reduceIte, Nat.reduceEqDiff]
          refine rr2 (retmn 0 6 rfl rfl rfl (by decide) rfl rfl (.inl rfl) rfl) ?_
          refine ⟨?_, ⟨by omega, by omega⟩, fun hz => ?_⟩
          · first | (simp; done) | (simp only [List.length_append, List.length_cons, List.length_nil]; omega) | omega
          · have h0 := hz0 hz
            first
            | (exact boxes_run hb (by omega))
            | (exfalso; simp_all; done)
        · try simp only [decide_eq_true_eq, decide_eq_false_iff_not, ne_eq, Decidable.not_not, Bool.not_eq_true', Bool.not_eq_false', Bool.or_eq_true, Bool.and_eq_true, Bool.or_eq_false_iff, Bool.and_eq_false_iff] at hc18
          refine W_seq (fun K20 hK20 => ?_)
          refine W_region hT hG [] [0, 6] ?_
          rw [hnt]
          simp only [baseS, eq_self, implies_true, if_true, if_false, reduceIte, Nat.reduceBEq, Nat.reduceEqDiff, Nat.reduceLT, Nat.reduceAdd, reduceCtorEq, relC, callOK0, callOK1, fzE, c_spec_l20BoxZR, tyInt, tdInt, tyBoxes, tdBoxes, tyRdP, tdRdP, tyBox, tdBox, c_spec_l20Rd_pick, c_spec_l20Rd_odd, c_spec_l20BoxZ, storeAV, setAll, FT.of, FT.setf, List.set_cons_zero, List.set_cons_succ, Option.isSome_some, Int.add_assoc, Int.reduceAdd, rowsAV, appAV, srcRows, srcFlat, reduceDIte, room, List.length_append, Nat.reduceLeDiff, elems, Int.mul_assoc]
          repeat (refine And.intro ?_ ?_; focus (first | exact ordP (by kernel_rfl) | with_reducible exact rfl | trivial | assumption | (simp only [inR]; omega) | omega | exact ⟨hc, by omega, by omega⟩ | exact ⟨hc, by omega, by omega, by omega⟩ | exact ⟨_, rfl⟩ | exact ⟨by omega, by omega⟩ | (simp only [List.length_append, List.length_cons, List.length_nil, room]; omega)))
          refine hK20 _ ?_
          clear hK20
          refine W_re [(0, .var), (6, .own 81 .box)] (by (try simp only [hnt, hnp]); rfl) ?_
          refine W_ret ?_
          simp only [thenQ, blockQ, loopQ, retR, retQ, reduceIte, Nat.reduceEqDiff]
          refine rr2 (retmn 0 6 rfl rfl rfl (by decide) rfl rfl (.inl rfl) rfl) ?_
          refine ⟨?_, ⟨by omega, by omega⟩, fun hz => ?_⟩
          · first | (simp; done) | (simp only [List.length_append, List.length_cons, List.length_nil]; omega) | omega
          · have h0 := hz0 hz
            first
            | (exact boxes_run hb (by omega))
            | (exfalso; simp_all; done)
    · try simp only [decide_eq_true_eq, decide_eq_false_iff_not, ne_eq, Decidable.not_not, Bool.not_eq_true', Bool.not_eq_false', Bool.or_eq_true, Bool.and_eq_true, Bool.or_eq_false_iff, Bool.and_eq_false_iff] at hc12
      refine W_skip ?_
      simp only [thenQ, blockQ, loopQ, reduceIte, Nat.reduceEqDiff]
      refine hK10 _ ?_
      clear hK10
      refine W_seq (fun K21 hK21 => ?_)
      refine W_region hT hG [] [0, 6] ?_
      rw [hnt]
      simp only [baseS, eq_self, implies_true, if_true, if_false, reduceIte, Nat.reduceBEq, Nat.reduceEqDiff, Nat.reduceLT, Nat.reduceAdd, reduceCtorEq, relC, callOK0, callOK1, fzE, c_spec_l20BoxZR, tyInt, tdInt, tyBoxes, tdBoxes, tyRdP, tdRdP, tyBox, tdBox, c_spec_l20Rd_pick, c_spec_l20Rd_odd, c_spec_l20BoxZ, storeAV, setAll, FT.of, FT.setf, List.set_cons_zero, List.set_cons_succ, Option.isSome_some, Int.add_assoc, Int.reduceAdd, rowsAV, appAV, srcRows, srcFlat, reduceDIte, room, List.length_append, Nat.reduceLeDiff, elems, Int.mul_assoc]
      repeat (refine And.intro ?_ ?_; focus (first | exact ordP (by kernel_rfl) | with_reducible exact rfl | trivial | assumption | (simp only [inR]; omega) | omega | exact ⟨hc, by omega, by omega⟩ | exact ⟨hc, by omega, by omega, by omega⟩ | exact ⟨_, rfl⟩ | exact ⟨by omega, by omega⟩ | (simp only [List.length_append, List.length_cons, List.length_nil, room]; omega)))
      refine hK21 _ ?_
      clear hK21
      refine W_re [(0, .var), (6, .own 81 .box)] (by (try simp only [hnt, hnp]); rfl) ?_
      refine W_ret ?_
      simp only [thenQ, blockQ, loopQ, retR, retQ, reduceIte, Nat.reduceEqDiff]
      refine rr2 (retmn 0 6 rfl rfl rfl (by decide) rfl rfl (.inl rfl) rfl) ?_
      refine ⟨?_, ⟨by omega, by omega⟩, fun hz => ?_⟩
      · first | (simp; done) | (simp only [List.length_append, List.length_cons, List.length_nil]; omega) | omega
      · have h0 := hz0 hz
        first
        | (exact boxes_run hb (by omega))
        | (exfalso; simp_all; done)

end Go.Proofs.Ytpiaeckkjdcifaa
