/- Walk over drawn plans with dangerous boxes. No condition. -/
import Derived.Test.YtjkghldkemoddaaDrawP
namespace Go.Proofs.Ytjkghldkemoddaa
open Go
set_option linter.unusedVariables false
set_option linter.unusedSimpArgs false

def c_spec_l20DangerR : List AV → List Own → Option (Prop × (CRes → Prop)) := fun xs os => match xs, os with
    | [], [.var [.rs .u8 b, .int p]] => some (codeOK b ∧ (0 ≤ p ∧ p ≤ 10), fun R => ∃ (y1 : Int) (y2 : Int) (y3 : Int) (bs : List BoxD) (pl : List Int) (q : Int), R = ⟨True, .tup [.agg [.int y1, .int y2, .int y3], .rs .box bs, .rs .i64 pl], [], [.var [.rs .u8 b, .int q]]⟩ ∧ (bs.length ≤ 12 ∧ pl.length ≤ 37 ∧ (p ≤ q ∧ q ≤ p + 300)))
    | _, _ => none
def c_spec_l20Danger : Ctr := ⟨[.m], true, fun _ _ => none, some c_spec_l20DangerR⟩
theorem m_spec_l20Danger : Meets Try.prog 107 c_spec_l20Danger := by
  refine meetsR_of (T := tyT) tyOK Try.func107 (by rfl) rfl (by decide) ?_
  intro args owns pre S hrun hpre
  simp only [c_spec_l20DangerR] at hrun
  split at hrun
  case h_2 => cases hrun
  rename_i b p
  cases hrun
  try dsimp only at hpre
  refine ⟨⟨[(0, .op 0 0)], [(0, some (.var [.rs .u8 b, .int p]))], 40⟩, rfl, fun E hP hnt hnp => ?_⟩
  replace hnt : E.nt = 40 := hnt
  replace hnp : E.np = 1 := hnp
  have hT : ∀ t d, tyT t = some d → TyOK E.P t d := hP ▸ tyOK
  have hG : ∀ f C, Γof [(69, c_spec_l20Plan), (83, c_spec_l20Rd_pick), (131, c_spec_BoxValid)] f = some C → Meets E.P f C := hΓof (by rw [hP]; exact ⟨m_spec_l20Plan, m_spec_l20Rd_pick, m_spec_BoxValid, trivial⟩)
  try simp only [show Try.f107.ntmps = 40 from rfl]
  have hc := hpre.1
  have hp := hpre.2
  refine W_seq (fun K1 hK1 => ?_)
  refine W_region hT hG [] [0, 2] ?_
  rw [hnt]
  simp only [baseS, eq_self, implies_true, if_true, if_false, reduceIte, Nat.reduceBEq, Nat.reduceEqDiff, Nat.reduceLT, Nat.reduceAdd, reduceCtorEq, relC, callOK0, callOK1, fzE, c_spec_l20PlanR, tyInt, tdInt, tyHull, tdHull, tyBoxes, tdBoxes, tyBox, tdBox, tyRdP, tdRdP, c_spec_l20Plan, c_spec_l20Rd_pick, c_spec_BoxValid, storeAV, setAll, FT.of, FT.setf, List.set_cons_zero, List.set_cons_succ, Option.isSome_some, Int.add_assoc, Int.reduceAdd, rowsAV, appAV, srcRows, srcFlat, reduceDIte, room, List.length_append, Nat.reduceLeDiff, elems, Int.mul_assoc, List.length_set, FT.size, Nat.reduceLT]
  repeat (refine And.intro ?_ ?_; focus (first | exact ordP (by kernel_rfl) | with_reducible exact rfl | trivial | assumption | (simp only [inR]; omega) | omega | exact ⟨hc, by omega, by omega⟩ | exact ⟨hc, by omega, by omega, by omega⟩ | exact ⟨_, rfl⟩ | exact ⟨by omega, by omega⟩ | (simp only [List.length_append, List.length_cons, List.length_nil, room]; omega)))
  refine hK1 _ ?_
  clear hK1
  refine W_seq (fun K2 hK2 => ?_)
  refine W_region hT hG [] [0, 2, 5, 6, 7] ?_
  rw [hnt]
  simp only [baseS, eq_self, implies_true, if_true, if_false, reduceIte, Nat.reduceBEq, Nat.reduceEqDiff, Nat.reduceLT, Nat.reduceAdd, reduceCtorEq, relC, callOK0, callOK1, fzE, c_spec_l20PlanR, tyInt, tdInt, tyHull, tdHull, tyBoxes, tdBoxes, tyBox, tdBox, tyRdP, tdRdP, c_spec_l20Plan, c_spec_l20Rd_pick, c_spec_BoxValid, storeAV, setAll, FT.of, FT.setf, List.set_cons_zero, List.set_cons_succ, Option.isSome_some, Int.add_assoc, Int.reduceAdd, rowsAV, appAV, srcRows, srcFlat, reduceDIte, room, List.length_append, Nat.reduceLeDiff, elems, Int.mul_assoc, List.length_set, FT.size, Nat.reduceLT]
  repeat (refine And.intro ?_ ?_; focus (first | exact ordP (by kernel_rfl) | with_reducible exact rfl | trivial | assumption | (simp only [inR]; omega) | omega | exact ⟨hc, by omega, by omega⟩ | exact ⟨hc, by omega, by omega, by omega⟩ | exact ⟨_, rfl⟩ | exact ⟨by omega, by omega⟩ | (simp only [List.length_append, List.length_cons, List.length_nil, room]; omega)))
  rintro _ ⟨y1, y2, y3, bs, pl, q1, rfl, hbl, hpl, hq1⟩
  simp only [baseS, eq_self, implies_true, if_true, if_false, reduceIte, Nat.reduceBEq, Nat.reduceEqDiff, Nat.reduceLT, Nat.reduceAdd, reduceCtorEq, relC, callOK0, callOK1, fzE, c_spec_l20PlanR, tyInt, tdInt, tyHull, tdHull, tyBoxes, tdBoxes, tyBox, tdBox, tyRdP, tdRdP, c_spec_l20Plan, c_spec_l20Rd_pick, c_spec_BoxValid, storeAV, setAll, FT.of, FT.setf, List.set_cons_zero, List.set_cons_succ, Option.isSome_some, Int.add_assoc, Int.reduceAdd, rowsAV, appAV, srcRows, srcFlat, reduceDIte, room, List.length_append, Nat.reduceLeDiff, elems, Int.mul_assoc, List.length_set, FT.size, Nat.reduceLT]
  repeat (refine And.intro ?_ ?_; focus (first | exact ordP (by kernel_rfl) | with_reducible exact rfl | trivial | assumption | (simp only [inR]; omega) | omega | exact ⟨hc, by omega, by omega⟩ | exact ⟨hc, by omega, by omega, by omega⟩ | exact ⟨_, rfl⟩ | exact ⟨by omega, by omega⟩ | (simp only [List.length_append, List.length_cons, List.length_nil, room]; omega)))
  refine hK2 _ ?_
  clear hK2
  refine W_seq (fun K3 hK3 => ?_)
  refine W_seq (fun K4 hK4 => ?_)
  refine W_region hT hG [] [0, 2, 5, 6, 7, 8] ?_
  rw [hnt]
  simp only [baseS, eq_self, implies_true, if_true, if_false, reduceIte, Nat.reduceBEq, Nat.reduceEqDiff, Nat.reduceLT, Nat.reduceAdd, reduceCtorEq, relC, callOK0, callOK1, fzE, c_spec_l20PlanR, tyInt, tdInt, tyHull, tdHull, tyBoxes, tdBoxes, tyBox, tdBox, tyRdP, tdRdP, c_spec_l20Plan, c_spec_l20Rd_pick, c_spec_BoxValid, storeAV, setAll, FT.of, FT.setf, List.set_cons_zero, List.set_cons_succ, Option.isSome_some, Int.add_assoc, Int.reduceAdd, rowsAV, appAV, srcRows, srcFlat, reduceDIte, room, List.length_append, Nat.reduceLeDiff, elems, Int.mul_assoc, List.length_set, FT.size, Nat.reduceLT]
  repeat (refine And.intro ?_ ?_; focus (first | exact ordP (by kernel_rfl) | with_reducible exact rfl | trivial | assumption | (simp only [inR]; omega) | omega | exact ⟨hc, by omega, by omega⟩ | exact ⟨hc, by omega, by omega, by omega⟩ | exact ⟨_, rfl⟩ | exact ⟨by omega, by omega⟩ | (simp only [List.length_append, List.length_cons, List.length_nil, room]; omega)))
  refine hK4 _ ?_
  clear hK4
  refine W_block ?_
  refine W_loop (α := Int × List BoxD × Int) [(0, .var), (2, .var), (5, .var), (6, .own 64 .box), (7, .as), (8, .as)] (fun x => ⟨[(0, .op 0 0), (2, .op 2 0), (5, .op 5 0), (6, .sl 6), (7, .rs .i64 pl), (8, .int x.1)], [(0, some (.var [.rs .u8 b, .int (x.2.2)])), (2, some (.var [.int 0, .int 0, .int 0])), (5, some (.var [.int y1, .int y2, .int y3])), (6, some (.sl 64 .box x.2.1))], 40⟩) (fun x => (0 ≤ x.1 ∧ x.1 ≤ x.2.1.length) ∧ x.2.1.length ≤ 12 ∧ (q1 ≤ x.2.2 ∧ x.2.2 ≤ q1 + 2 * x.1)) (fun x => (x.2.1.length - x.1).toNat) (0, bs, q1) ?_ ?_ ?_
  · (try simp only [hnt, hnp]); rfl
  · exact ⟨by dsimp only; omega, by dsimp only; omega, by dsimp only; omega⟩
  rintro ⟨k, bs, q⟩ ⟨hk, hl, hq⟩
  dsimp only at hk hl hq ⊢
  refine W_seq (fun K6 hK6 => ?_)
  refine W_seq (fun K7 hK7 => ?_)
  refine W_region hT hG [] [0, 2, 5, 6, 7, 8, 18] ?_
  rw [hnt]
  simp only [baseS, eq_self, implies_true, if_true, if_false, reduceIte, Nat.reduceBEq, Nat.reduceEqDiff, Nat.reduceLT, Nat.reduceAdd, reduceCtorEq, relC, callOK0, callOK1, fzE, c_spec_l20PlanR, tyInt, tdInt, tyHull, tdHull, tyBoxes, tdBoxes, tyBox, tdBox, tyRdP, tdRdP, c_spec_l20Plan, c_spec_l20Rd_pick, c_spec_BoxValid, storeAV, setAll, FT.of, FT.setf, List.set_cons_zero, List.set_cons_succ, Option.isSome_some, Int.add_assoc, Int.reduceAdd, rowsAV, appAV, srcRows, srcFlat, reduceDIte, room, List.length_append, Nat.reduceLeDiff, elems, Int.mul_assoc, List.length_set, FT.size, Nat.reduceLT]
  repeat (refine And.intro ?_ ?_; focus (first | exact ordP (by kernel_rfl) | with_reducible exact rfl | trivial | assumption | (simp only [inR]; omega) | omega | exact ⟨hc, by omega, by omega⟩ | exact ⟨hc, by omega, by omega, by omega⟩ | exact ⟨_, rfl⟩ | exact ⟨by omega, by omega⟩ | (simp only [List.length_append, List.length_cons, List.length_nil, room]; omega)))
  refine hK7 _ ?_
  clear hK7
  refine W_cond (b := _) rfl (fun hc8 => ?_) (fun hc8 => ?_)
  · try simp only [decide_eq_true_eq, decide_eq_false_iff_not, ne_eq, Decidable.not_not, Bool.not_eq_true', Bool.not_eq_false', Bool.or_eq_true, Bool.and_eq_true, Bool.or_eq_false_iff, Bool.and_eq_false_iff] at hc8
    refine W_skip ?_
    simp only [thenQ, blockQ, loopQ, reduceIte, Nat.reduceEqDiff]
    refine hK6 _ ?_
    clear hK6
    refine W_seq (fun K9 hK9 => ?_)
    refine W_block ?_
    refine W_seq (fun K10 hK10 => ?_)
    by_cases hs11 : boxV (bx bs k.toNat).id (bx bs k.toNat).weight (bx bs k.toNat).cls (bx bs k.toNat).port = true
    · skip
      refine W_region hT hG [100027, 100028, 100029] [0, 2, 5, 6, 7, 8, 30] ?_
      rw [hnt]
      simp only [baseS, eq_self, implies_true, if_true, if_false, reduceIte, Nat.reduceBEq, Nat.reduceEqDiff, Nat.reduceLT, Nat.reduceAdd, reduceCtorEq, relC, callOK0, callOK1, fzE, c_spec_l20PlanR, tyInt, tdInt, tyHull, tdHull, tyBoxes, tdBoxes, tyBox, tdBox, tyRdP, tdRdP, c_spec_l20Plan, c_spec_l20Rd_pick, c_spec_BoxValid, storeAV, setAll, FT.of, FT.setf, List.set_cons_zero, List.set_cons_succ, Option.isSome_some, Int.add_assoc, Int.reduceAdd, rowsAV, appAV, srcRows, srcFlat, reduceDIte, room, List.length_append, Nat.reduceLeDiff, elems, Int.mul_assoc, List.length_set, FT.size, Nat.reduceLT, hs11, Bool.true_and]
      repeat (refine And.intro ?_ ?_; focus (first | exact ordP (by kernel_rfl) | with_reducible exact rfl | trivial | assumption | (simp only [inR]; omega) | omega | exact ⟨hc, by omega, by omega⟩ | exact ⟨hc, by omega, by omega, by omega⟩ | exact ⟨_, rfl⟩ | exact ⟨by omega, by omega⟩ | (simp only [List.length_append, List.length_cons, List.length_nil, room]; omega)))
      refine hK10 _ ?_
      clear hK10
      refine W_cond (b := _) rfl (fun hc12 => ?_) (fun hc12 => ?_)
      · try simp only [decide_eq_true_eq, decide_eq_false_iff_not, ne_eq, Decidable.not_not, Bool.not_eq_true', Bool.not_eq_false', Bool.or_eq_true, Bool.and_eq_true, Bool.or_eq_false_iff, Bool.and_eq_false_iff] at hc12
        refine W_region hT hG [] [0, 2, 5, 6, 7, 8] ?_
        rw [hnt]
        simp only [baseS, eq_self, implies_true, if_true, if_false, reduceIte, Nat.reduceBEq, Nat.reduceEqDiff, Nat.reduceLT, Nat.reduceAdd, reduceCtorEq, relC, callOK0, callOK1, fzE, c_spec_l20PlanR, tyInt, tdInt, tyHull, tdHull, tyBoxes, tdBoxes, tyBox, tdBox, tyRdP, tdRdP, c_spec_l20Plan, c_spec_l20Rd_pick, c_spec_BoxValid, storeAV, setAll, FT.of, FT.setf, List.set_cons_zero, List.set_cons_succ, Option.isSome_some, Int.add_assoc, Int.reduceAdd, rowsAV, appAV, srcRows, srcFlat, reduceDIte, room, List.length_append, Nat.reduceLeDiff, elems, Int.mul_assoc, List.length_set, FT.size, Nat.reduceLT]
        repeat (refine And.intro ?_ ?_; focus (first | exact ordP (by kernel_rfl) | with_reducible exact rfl | trivial | assumption | (simp only [inR]; omega) | omega | exact ⟨hc, by omega, by omega⟩ | exact ⟨hc, by omega, by omega, by omega⟩ | exact ⟨_, rfl⟩ | exact ⟨by omega, by omega⟩ | (simp only [List.length_append, List.length_cons, List.length_nil, room]; omega)))
        refine hK9 _ ?_
        clear hK9
        refine W_region hT hG [] [0, 2, 5, 6, 7, 8] ?_
        rw [hnt]
        simp only [baseS, eq_self, implies_true, if_true, if_false, reduceIte, Nat.reduceBEq, Nat.reduceEqDiff, Nat.reduceLT, Nat.reduceAdd, reduceCtorEq, relC, callOK0, callOK1, fzE, c_spec_l20PlanR, tyInt, tdInt, tyHull, tdHull, tyBoxes, tdBoxes, tyBox, tdBox, tyRdP, tdRdP, c_spec_l20Plan, c_spec_l20Rd_pick, c_spec_BoxValid, storeAV, setAll, FT.of, FT.setf, List.set_cons_zero, List.set_cons_succ, Option.isSome_some, Int.add_assoc, Int.reduceAdd, rowsAV, appAV, srcRows, srcFlat, reduceDIte, room, List.length_append, Nat.reduceLeDiff, elems, Int.mul_assoc, List.length_set, FT.size, Nat.reduceLT]
        repeat (refine And.intro ?_ ?_; focus (first | exact ordP (by kernel_rfl) | with_reducible exact rfl | trivial | assumption | (simp only [inR]; omega) | omega | exact ⟨hc, by omega, by omega⟩ | exact ⟨hc, by omega, by omega, by omega⟩ | exact ⟨_, rfl⟩ | exact ⟨by omega, by omega⟩ | (simp only [List.length_append, List.length_cons, List.length_nil, room]; omega)))
        first
        | (refine ⟨(k + 1, bs, q), (by (try simp only [hnt, hnp]); rfl), ⟨by dsimp only; omega, by dsimp only; omega, by dsimp only; omega⟩, by dsimp only; omega⟩)
        | (refine ⟨(k + 1, bs, q + 1), (by (try simp only [hnt, hnp]); rfl), ⟨by dsimp only; omega, by dsimp only; omega, by dsimp only; omega⟩, by dsimp only; omega⟩)
        | (refine ⟨(k + 1, bs.set _ _, q + 2), (by (try simp only [hnt, hnp]); rfl), ⟨by dsimp only; simp only [List.length_set]; omega, by dsimp only; simp only [List.length_set]; omega, by dsimp only; omega⟩, by dsimp only; simp only [List.length_set]; omega⟩)
      · try simp only [decide_eq_true_eq, decide_eq_false_iff_not, ne_eq, Decidable.not_not, Bool.not_eq_true', Bool.not_eq_false', Bool.or_eq_true, Bool.and_eq_true, Bool.or_eq_false_iff, Bool.and_eq_false_iff] at hc12
        refine W_skip ?_
        simp only [thenQ, blockQ, loopQ, reduceIte, Nat.reduceEqDiff]
        refine hK9 _ ?_
        clear hK9
        refine W_region hT hG [] [0, 2, 5, 6, 7, 8] ?_
        rw [hnt]
        simp only [baseS, eq_self, implies_true, if_true, if_false, reduceIte, Nat.reduceBEq, Nat.reduceEqDiff, Nat.reduceLT, Nat.reduceAdd, reduceCtorEq, relC, callOK0, callOK1, fzE, c_spec_l20PlanR, tyInt, tdInt, tyHull, tdHull, tyBoxes, tdBoxes, tyBox, tdBox, tyRdP, tdRdP, c_spec_l20Plan, c_spec_l20Rd_pick, c_spec_BoxValid, storeAV, setAll, FT.of, FT.setf, List.set_cons_zero, List.set_cons_succ, Option.isSome_some, Int.add_assoc, Int.reduceAdd, rowsAV, appAV, srcRows, srcFlat, reduceDIte, room, List.length_append, Nat.reduceLeDiff, elems, Int.mul_assoc, List.length_set, FT.size, Nat.reduceLT]
        repeat (refine And.intro ?_ ?_; focus (first | exact ordP (by kernel_rfl) | with_reducible exact rfl | trivial | assumption | (simp only [inR]; omega) | omega | exact ⟨hc, by omega, by omega⟩ | exact ⟨hc, by omega, by omega, by omega⟩ | exact ⟨_, rfl⟩ | exact ⟨by omega, by omega⟩ | (simp only [List.length_append, List.length_cons, List.length_nil, room]; omega)))
        first
        | (refine ⟨(k + 1, bs, q), (by (try simp only [hnt, hnp]); rfl), ⟨by dsimp only; omega, by dsimp only; omega, by dsimp only; omega⟩, by dsimp only; omega⟩)
        | (refine ⟨(k + 1, bs, q + 1), (by (try simp only [hnt, hnp]); rfl), ⟨by dsimp only; omega, by dsimp only; omega, by dsimp only; omega⟩, by dsimp only; omega⟩)
        | (refine ⟨(k + 1, bs.set _ _, q + 2), (by (try simp only [hnt, hnp]); rfl), ⟨by dsimp only; simp only [List.length_set]; omega, by dsimp only; simp only [List.length_set]; omega, by dsimp only; omega⟩, by dsimp only; simp only [List.length_set]; omega⟩)
    · skip
      refine W_region hT hG [200027, 200028, 200029] [0, 2, 5, 6, 7, 8, 30] ?_
      rw [hnt]
      have hbf : boxV (bx bs k.toNat).id (bx bs k.toNat).weight (bx bs k.toNat).cls (bx bs k.toNat).port = false := by simpa using hs11
      simp only [baseS, eq_self, implies_true, if_true, if_false, reduceIte, Nat.reduceBEq, Nat.reduceEqDiff, Nat.reduceLT, Nat.reduceAdd, reduceCtorEq, relC, callOK0, callOK1, fzE, c_spec_l20PlanR, tyInt, tdInt, tyHull, tdHull, tyBoxes, tdBoxes, tyBox, tdBox, tyRdP, tdRdP, c_spec_l20Plan, c_spec_l20Rd_pick, c_spec_BoxValid, storeAV, setAll, FT.of, FT.setf, List.set_cons_zero, List.set_cons_succ, Option.isSome_some, Int.add_assoc, Int.reduceAdd, rowsAV, appAV, srcRows, srcFlat, reduceDIte, room, List.length_append, Nat.reduceLeDiff, elems, Int.mul_assoc, List.length_set, FT.size, Nat.reduceLT, hbf, Bool.false_and]
      repeat (refine And.intro ?_ ?_; focus (first | exact ordP (by kernel_rfl) | with_reducible exact rfl | trivial | assumption | (simp only [inR]; omega) | omega | exact ⟨hc, by omega, by omega⟩ | exact ⟨hc, by omega, by omega, by omega⟩ | exact ⟨_, rfl⟩ | exact ⟨by omega, by omega⟩ | (simp only [List.length_append, List.length_cons, List.length_nil, room]; omega)))
      refine hK10 _ ?_
      clear hK10
      refine W_cond (b := _) rfl (fun hc13 => ?_) (fun hc13 => ?_)
      · try simp only [decide_eq_true_eq, decide_eq_false_iff_not, ne_eq, Decidable.not_not, Bool.not_eq_true', Bool.not_eq_false', Bool.or_eq_true, Bool.and_eq_true, Bool.or_eq_false_iff, Bool.and_eq_false_iff] at hc13
        first | (cases hc13; done) | (simp at hc13; done) | exact absurd hc13 (by simp)
      · try simp only [decide_eq_true_eq, decide_eq_false_iff_not, ne_eq, Decidable.not_not, Bool.not_eq_true', Bool.not_eq_false', Bool.or_eq_true, Bool.and_eq_true, Bool.or_eq_false_iff, Bool.and_eq_false_iff] at hc13
        refine W_skip ?_
        simp only [thenQ, blockQ, loopQ, reduceIte, Nat.reduceEqDiff]
        refine hK9 _ ?_
        clear hK9
        refine W_region hT hG [] [0, 2, 5, 6, 7, 8] ?_
        rw [hnt]
        simp only [baseS, eq_self, implies_true, if_true, if_false, reduceIte, Nat.reduceBEq, Nat.reduceEqDiff, Nat.reduceLT, Nat.reduceAdd, reduceCtorEq, relC, callOK0, callOK1, fzE, c_spec_l20PlanR, tyInt, tdInt, tyHull, tdHull, tyBoxes, tdBoxes, tyBox, tdBox, tyRdP, tdRdP, c_spec_l20Plan, c_spec_l20Rd_pick, c_spec_BoxValid, storeAV, setAll, FT.of, FT.setf, List.set_cons_zero, List.set_cons_succ, Option.isSome_some, Int.add_assoc, Int.reduceAdd, rowsAV, appAV, srcRows, srcFlat, reduceDIte, room, List.length_append, Nat.reduceLeDiff, elems, Int.mul_assoc, List.length_set, FT.size, Nat.reduceLT]
        repeat (refine And.intro ?_ ?_; focus (first | exact ordP (by kernel_rfl) | with_reducible exact rfl | trivial | assumption | (simp only [inR]; omega) | omega | exact ⟨hc, by omega, by omega⟩ | exact ⟨hc, by omega, by omega, by omega⟩ | exact ⟨_, rfl⟩ | exact ⟨by omega, by omega⟩ | (simp only [List.length_append, List.length_cons, List.length_nil, room]; omega)))
        first
        | (refine ⟨(k + 1, bs, q), (by (try simp only [hnt, hnp]); rfl), ⟨by dsimp only; omega, by dsimp only; omega, by dsimp only; omega⟩, by dsimp only; omega⟩)
        | (refine ⟨(k + 1, bs, q + 1), (by (try simp only [hnt, hnp]); rfl), ⟨by dsimp only; omega, by dsimp only; omega, by dsimp only; omega⟩, by dsimp only; omega⟩)
        | (refine ⟨(k + 1, bs.set _ _, q + 2), (by (try simp only [hnt, hnp]); rfl), ⟨by dsimp only; simp only [List.length_set]; omega, by dsimp only; simp only [List.length_set]; omega, by dsimp only; omega⟩, by dsimp only; simp only [List.length_set]; omega⟩)
  · try simp only [decide_eq_true_eq, decide_eq_false_iff_not, ne_eq, Decidable.not_not, Bool.not_eq_true', Bool.not_eq_false', Bool.or_eq_true, Bool.and_eq_true, Bool.or_eq_false_iff, Bool.and_eq_false_iff] at hc8
    refine W_exit ?_
    simp only [thenQ, blockQ, loopQ, reduceIte, Nat.reduceEqDiff]
    refine hK3 _ ?_
    clear hK3
    refine W_seq (fun K14 hK14 => ?_)
    refine W_region hT hG [] [0, 2, 3, 4] ?_
    rw [hnt]
    simp only [baseS, eq_self, implies_true, if_true, if_false, reduceIte, Nat.reduceBEq, Nat.reduceEqDiff, Nat.reduceLT, Nat.reduceAdd, reduceCtorEq, relC, callOK0, callOK1, fzE, c_spec_l20PlanR, tyInt, tdInt, tyHull, tdHull, tyBoxes, tdBoxes, tyBox, tdBox, tyRdP, tdRdP, c_spec_l20Plan, c_spec_l20Rd_pick, c_spec_BoxValid, storeAV, setAll, FT.of, FT.setf, List.set_cons_zero, List.set_cons_succ, Option.isSome_some, Int.add_assoc, Int.reduceAdd, rowsAV, appAV, srcRows, srcFlat, reduceDIte, room, List.length_append, Nat.reduceLeDiff, elems, Int.mul_assoc, List.length_set, FT.size, Nat.reduceLT]
    repeat (refine And.intro ?_ ?_; focus (first | exact ordP (by kernel_rfl) | with_reducible exact rfl | trivial | assumption | (simp only [inR]; omega) | omega | exact ⟨hc, by omega, by omega⟩ | exact ⟨hc, by omega, by omega, by omega⟩ | exact ⟨_, rfl⟩ | exact ⟨by omega, by omega⟩ | (simp only [List.length_append, List.length_cons, List.length_nil, room]; omega)))
    refine hK14 _ ?_
    clear hK14
    refine W_re [(0, .var), (2, .var), (3, .fz .box), (4, .fz .i64)] (by (try simp only [hnt, hnp]); rfl) ?_
    refine W_ret ?_
    simp only [thenQ, blockQ, loopQ, retR, retQ, reduceIte, Nat.reduceEqDiff]
    refine rr6 (retm 0 rfl rfl rfl rfl (.inl rfl) rfl) ?_
    refine ⟨by omega, by omega, by omega, by omega⟩

def c_spec_DrawTooNearR : List AV → List Own → Option (Prop × (CRes → Prop)) := fun xs os => match xs, os with
    | [.rs .u8 b], [] => some (∀ x ∈ b, 0 ≤ x ∧ x ≤ 255, fun R => ∃ (y1 : Int) (y2 : Int) (y3 : Int) (bs : List BoxD) (pl : List Int), R = ⟨True, .tup [.agg [.int y1, .int y2, .int y3], .rs .box bs, .rs .i64 pl], [], []⟩ ∧ (bs.length ≤ 12 ∧ pl.length ≤ 37))
    | _, _ => none
def c_spec_DrawTooNear : Ctr := ⟨[.v (.r .u8)], true, fun _ _ => none, some c_spec_DrawTooNearR⟩
theorem m_spec_DrawTooNear : Meets Try.prog 62 c_spec_DrawTooNear := by
  refine meetsR_of (T := tyT) tyOK Try.func62 (by rfl) rfl (by decide) ?_
  intro args owns pre S hrun hpre
  simp only [c_spec_DrawTooNearR] at hrun
  split at hrun
  case h_2 => cases hrun
  rename_i b
  cases hrun
  try dsimp only at hpre
  refine ⟨_, rfl, fun E hP hnt hnp => ?_⟩
  replace hnt : E.nt = 11 := hnt
  replace hnp : E.np = 1 := hnp
  have hT : ∀ t d, tyT t = some d → TyOK E.P t d := hP ▸ tyOK
  have hG : ∀ f C, Γof [(70, c_spec_l20Open), (107, c_spec_l20Danger)] f = some C → Meets E.P f C := hΓof (by rw [hP]; exact ⟨m_spec_l20Open, m_spec_l20Danger, trivial⟩)
  try simp only [show Try.f62.ntmps = 11 from rfl]
  have hc := code_take hpre
  refine W_seq (fun K1 hK1 => ?_)
  refine W_region hT hG [] [0, 2] ?_
  rw [hnt]
  simp only [baseS, eq_self, implies_true, if_true, if_false, reduceIte, Nat.reduceBEq, Nat.reduceEqDiff, Nat.reduceLT, Nat.reduceAdd, reduceCtorEq, relC, callOK0, callOK1, fzE, c_spec_l20DangerR, tyBytes, tdBytes, tyHull, tdHull, tyRdP, tdRdP, c_spec_l20Open, c_spec_l20Danger, storeAV, setAll, FT.of, FT.setf, List.set_cons_zero, List.set_cons_succ, Option.isSome_some, Int.add_assoc, Int.reduceAdd, rowsAV, appAV, srcRows, srcFlat, reduceDIte, room, List.length_append, Nat.reduceLeDiff, elems, Int.mul_assoc]
  repeat (refine And.intro ?_ ?_; focus (first | exact ordP (by kernel_rfl) | with_reducible exact rfl | trivial | assumption | (simp only [inR]; omega) | omega | exact ⟨hc, by omega, by omega⟩ | exact ⟨hc, by omega, by omega, by omega⟩ | exact ⟨_, rfl⟩ | exact ⟨by omega, by omega⟩ | (simp only [List.length_append, List.length_cons, List.length_nil, room]; omega)))
  refine hK1 _ ?_
  clear hK1
  refine W_seq (fun K2 hK2 => ?_)
  refine W_region hT hG [] [2, 3, 4] ?_
  rw [hnt]
  simp only [baseS, eq_self, implies_true, if_true, if_false, reduceIte, Nat.reduceBEq, Nat.reduceEqDiff, Nat.reduceLT, Nat.reduceAdd, reduceCtorEq, relC, callOK0, callOK1, fzE, c_spec_l20DangerR, tyBytes, tdBytes, tyHull, tdHull, tyRdP, tdRdP, c_spec_l20Open, c_spec_l20Danger, storeAV, setAll, FT.of, FT.setf, List.set_cons_zero, List.set_cons_succ, Option.isSome_some, Int.add_assoc, Int.reduceAdd, rowsAV, appAV, srcRows, srcFlat, reduceDIte, room, List.length_append, Nat.reduceLeDiff, elems, Int.mul_assoc]
  repeat (refine And.intro ?_ ?_; focus (first | exact ordP (by kernel_rfl) | with_reducible exact rfl | trivial | assumption | (simp only [inR]; omega) | omega | exact ⟨hc, by omega, by omega⟩ | exact ⟨hc, by omega, by omega, by omega⟩ | exact ⟨_, rfl⟩ | exact ⟨by omega, by omega⟩ | (simp only [List.length_append, List.length_cons, List.length_nil, room]; omega)))
  rintro _ ⟨y1, y2, y3, bs, pl, q, rfl, hbl, hpl, hq⟩
  simp only [baseS, eq_self, implies_true, if_true, if_false, reduceIte, Nat.reduceBEq, Nat.reduceEqDiff, Nat.reduceLT, Nat.reduceAdd, reduceCtorEq, relC, callOK0, callOK1, fzE, c_spec_l20DangerR, tyBytes, tdBytes, tyHull, tdHull, tyRdP, tdRdP, c_spec_l20Open, c_spec_l20Danger, storeAV, setAll, FT.of, FT.setf, List.set_cons_zero, List.set_cons_succ, Option.isSome_some, Int.add_assoc, Int.reduceAdd, rowsAV, appAV, srcRows, srcFlat, reduceDIte, room, List.length_append, Nat.reduceLeDiff, elems, Int.mul_assoc]
  repeat (refine And.intro ?_ ?_; focus (first | exact ordP (by kernel_rfl) | with_reducible exact rfl | trivial | assumption | (simp only [inR]; omega) | omega | exact ⟨hc, by omega, by omega⟩ | exact ⟨hc, by omega, by omega, by omega⟩ | exact ⟨_, rfl⟩ | exact ⟨by omega, by omega⟩ | (simp only [List.length_append, List.length_cons, List.length_nil, room]; omega)))
  refine hK2 _ ?_
  clear hK2
  refine W_re [(2, .var), (3, .fz .box), (4, .fz .i64)] (by (try simp only [hnt, hnp]); rfl) ?_
  refine W_ret ?_
  simp only [thenQ, blockQ, loopQ, retR, retQ, reduceIte, Nat.reduceEqDiff]
  refine rr5 (ret0 rfl rfl rfl (.inl rfl) rfl) ?_
  exact ⟨hbl, hpl⟩

def c_spec_DrawSafeSlotsR : List AV → List Own → Option (Prop × (CRes → Prop)) := fun xs os => match xs, os with
    | [.rs .u8 b], [] => some (∀ x ∈ b, 0 ≤ x ∧ x ≤ 255, fun R => ∃ (y1 : Int) (y2 : Int) (y3 : Int) (bs : List BoxD) (pl : List Int) (n : Int), R = ⟨True, .tup [.agg [.int y1, .int y2, .int y3], .rs .box bs, .rs .i64 pl, .int n], [], []⟩ ∧ (bs.length ≤ 12 ∧ pl.length ≤ 37 ∧ (0 ≤ n ∧ n ≤ 7)))
    | _, _ => none
def c_spec_DrawSafeSlots : Ctr := ⟨[.v (.r .u8)], true, fun _ _ => none, some c_spec_DrawSafeSlotsR⟩
theorem m_spec_DrawSafeSlots : Meets Try.prog 66 c_spec_DrawSafeSlots := by
  refine meetsR_of (T := tyT) tyOK Try.func66 (by rfl) rfl (by decide) ?_
  intro args owns pre S hrun hpre
  simp only [c_spec_DrawSafeSlotsR] at hrun
  split at hrun
  case h_2 => cases hrun
  rename_i b
  cases hrun
  try dsimp only at hpre
  refine ⟨_, rfl, fun E hP hnt hnp => ?_⟩
  replace hnt : E.nt = 28 := hnt
  replace hnp : E.np = 1 := hnp
  have hT : ∀ t d, tyT t = some d → TyOK E.P t d := hP ▸ tyOK
  have hG : ∀ f C, Γof [(70, c_spec_l20Open), (83, c_spec_l20Rd_pick), (107, c_spec_l20Danger)] f = some C → Meets E.P f C := hΓof (by rw [hP]; exact ⟨m_spec_l20Open, m_spec_l20Rd_pick, m_spec_l20Danger, trivial⟩)
  try simp only [show Try.f66.ntmps = 28 from rfl]
  have hc := code_take hpre
  have k1 := fun (p n : Int) (h : 1 ≤ n) => pick_box (b := b.take 2000) (p := p) (n := n) h
  
  refine W_seq (fun K1 hK1 => ?_)
  refine W_region hT hG [] [0, 2] ?_
  rw [hnt]
  simp only [baseS, eq_self, implies_true, if_true, if_false, reduceIte, Nat.reduceBEq, Nat.reduceEqDiff, Nat.reduceLT, Nat.reduceAdd, reduceCtorEq, relC, callOK0, callOK1, fzE, c_spec_l20DangerR, tyInt, tdInt, tyBytes, tdBytes, tyHull, tdHull, tyRdP, tdRdP, c_spec_l20Open, c_spec_l20Rd_pick, c_spec_l20Danger, storeAV, setAll, FT.of, FT.setf, List.set_cons_zero, List.set_cons_succ, Option.isSome_some, Int.add_assoc, Int.reduceAdd, rowsAV, appAV, srcRows, srcFlat, reduceDIte, room, List.length_append, Nat.reduceLeDiff, elems, Int.mul_assoc]
  repeat (refine And.intro ?_ ?_; focus (first | exact ordP (by kernel_rfl) | with_reducible exact rfl | trivial | assumption | (simp only [inR]; omega) | omega | exact ⟨hc, by omega, by omega⟩ | exact ⟨hc, by omega, by omega, by omega⟩ | exact ⟨_, rfl⟩ | exact ⟨by omega, by omega⟩ | (simp only [List.length_append, List.length_cons, List.length_nil, room]; omega)))
  refine hK1 _ ?_
  clear hK1
  refine W_seq (fun K2 hK2 => ?_)
  refine W_region hT hG [] [2, 6] ?_
  rw [hnt]
  simp only [baseS, eq_self, implies_true, if_true, if_false, reduceIte, Nat.reduceBEq, Nat.reduceEqDiff, Nat.reduceLT, Nat.reduceAdd, reduceCtorEq, relC, callOK0, callOK1, fzE, c_spec_l20DangerR, tyInt, tdInt, tyBytes, tdBytes, tyHull, tdHull, tyRdP, tdRdP, c_spec_l20Open, c_spec_l20Rd_pick, c_spec_l20Danger, storeAV, setAll, FT.of, FT.setf, List.set_cons_zero, List.set_cons_succ, Option.isSome_some, Int.add_assoc, Int.reduceAdd, rowsAV, appAV, srcRows, srcFlat, reduceDIte, room, List.length_append, Nat.reduceLeDiff, elems, Int.mul_assoc]
  repeat (refine And.intro ?_ ?_; focus (first | exact ordP (by kernel_rfl) | with_reducible exact rfl | trivial | assumption | (simp only [inR]; omega) | omega | exact ⟨hc, by omega, by omega⟩ | exact ⟨hc, by omega, by omega, by omega⟩ | exact ⟨_, rfl⟩ | exact ⟨by omega, by omega⟩ | (simp only [List.length_append, List.length_cons, List.length_nil, room]; omega)))
  refine hK2 _ ?_
  clear hK2
  refine W_seq (fun K3 hK3 => ?_)
  refine W_region hT hG [] [2, 6, 7, 8, 9] ?_
  rw [hnt]
  simp only [baseS, eq_self, implies_true, if_true, if_false, reduceIte, Nat.reduceBEq, Nat.reduceEqDiff, Nat.reduceLT, Nat.reduceAdd, reduceCtorEq, relC, callOK0, callOK1, fzE, c_spec_l20DangerR, tyInt, tdInt, tyBytes, tdBytes, tyHull, tdHull, tyRdP, tdRdP, c_spec_l20Open, c_spec_l20Rd_pick, c_spec_l20Danger, storeAV, setAll, FT.of, FT.setf, List.set_cons_zero, List.set_cons_succ, Option.isSome_some, Int.add_assoc, Int.reduceAdd, rowsAV, appAV, srcRows, srcFlat, reduceDIte, room, List.length_append, Nat.reduceLeDiff, elems, Int.mul_assoc]
  repeat (refine And.intro ?_ ?_; focus (first | exact ordP (by kernel_rfl) | with_reducible exact rfl | trivial | assumption | (simp only [inR]; omega) | omega | exact ⟨hc, by omega, by omega⟩ | exact ⟨hc, by omega, by omega, by omega⟩ | exact ⟨_, rfl⟩ | exact ⟨by omega, by omega⟩ | (simp only [List.length_append, List.length_cons, List.length_nil, room]; omega)))
  rintro _ ⟨y1, y2, y3, bs, pl, q, rfl, hbl, hpl, hq⟩
  simp only [baseS, eq_self, implies_true, if_true, if_false, reduceIte, Nat.reduceBEq, Nat.reduceEqDiff, Nat.reduceLT, Nat.reduceAdd, reduceCtorEq, relC, callOK0, callOK1, fzE, c_spec_l20DangerR, tyInt, tdInt, tyBytes, tdBytes, tyHull, tdHull, tyRdP, tdRdP, c_spec_l20Open, c_spec_l20Rd_pick, c_spec_l20Danger, storeAV, setAll, FT.of, FT.setf, List.set_cons_zero, List.set_cons_succ, Option.isSome_some, Int.add_assoc, Int.reduceAdd, rowsAV, appAV, srcRows, srcFlat, reduceDIte, room, List.length_append, Nat.reduceLeDiff, elems, Int.mul_assoc]
  repeat (refine And.intro ?_ ?_; focus (first | exact ordP (by kernel_rfl) | with_reducible exact rfl | trivial | assumption | (simp only [inR]; omega) | omega | exact ⟨hc, by omega, by omega⟩ | exact ⟨hc, by omega, by omega, by omega⟩ | exact ⟨_, rfl⟩ | exact ⟨by omega, by omega⟩ | (simp only [List.length_append, List.length_cons, List.length_nil, room]; omega)))
  refine hK3 _ ?_
  clear hK3
  refine W_seq (fun K4 hK4 => ?_)
  refine W_region_draw hT hG (by rw [hP]; exact draws_ok) [] [2, 3, 4, 5] ?_
  rw [hnt]
  have hk1 := k1 q 4 (by omega)
  have hk2 := k1 (q + 1) 20 (by omega)
  simp only [baseS, eq_self, implies_true, if_true, if_false, reduceIte, Nat.reduceBEq, Nat.reduceEqDiff, Nat.reduceLT, Nat.reduceAdd, reduceCtorEq, relC, callOK0, callOK1, fzE, c_spec_l20DangerR, tyInt, tdInt, tyBytes, tdBytes, tyHull, tdHull, tyRdP, tdRdP, c_spec_l20Open, c_spec_l20Rd_pick, c_spec_l20Danger, storeAV, setAll, FT.of, FT.setf, List.set_cons_zero, List.set_cons_succ, Option.isSome_some, Int.add_assoc, Int.reduceAdd, rowsAV, appAV, srcRows, srcFlat, reduceDIte, room, List.length_append, Nat.reduceLeDiff, elems, Int.mul_assoc]
  repeat (refine And.intro ?_ ?_; focus (first | exact ordP (by kernel_rfl) | with_reducible exact rfl | trivial | assumption | (simp only [inR]; omega) | omega | exact ⟨hc, by omega, by omega⟩ | exact ⟨hc, by omega, by omega, by omega⟩ | exact ⟨_, rfl⟩ | exact ⟨by omega, by omega⟩ | (simp only [List.length_append, List.length_cons, List.length_nil, room]; omega)))
  refine hK4 _ ?_
  clear hK4
  refine W_re [(2, .var), (3, .fz .box), (4, .fz .i64), (5, .as)] (by (try simp only [hnt, hnp]); rfl) ?_
  refine W_ret ?_
  simp only [thenQ, blockQ, loopQ, retR, retQ, reduceIte, Nat.reduceEqDiff]
  refine rr6 (ret0 rfl rfl rfl (.inl rfl) rfl) ?_
  have hk1 := k1 q 4 (by omega)
  have hk2 := k1 (q + 1) 20 (by omega)
  exact ⟨hbl, hpl, by omega, by omega⟩

end Go.Proofs.Ytjkghldkemoddaa
