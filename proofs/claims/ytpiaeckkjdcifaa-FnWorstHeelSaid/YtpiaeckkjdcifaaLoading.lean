/- Walks over drawn orders of loading. No condition. -/
import Derived.Test.YtpiaeckkjdcifaaOrderV
namespace Go.Proofs.Ytpiaeckkjdcifaa
open Go
set_option linter.unusedVariables false
set_option linter.unusedSimpArgs false

def c_spec_l20LoadingR : List AV → List Own → Option (Prop × (CRes → Prop)) := fun xs os => match xs, os with
    | [.int n], [.var [.rs .u8 b, .int p]] => some (codeOK b ∧ (0 ≤ p ∧ p ≤ 10) ∧ (0 ≤ n ∧ n ≤ 100), fun R => ∃ (y1 : Int) (y2 : Int) (y3 : Int) (bs : List BoxD) (pl : List Int) (o : List Int) (q : Int), R = ⟨True, .tup [.agg [.int y1, .int y2, .int y3], .rs .box bs, .rs .i64 pl, .rs .i64 o], [], [.var [.rs .u8 b, .int q]]⟩ ∧ (bs.length ≤ 12 ∧ pl.length ≤ 37 ∧ o.length ≤ 37))
    | _, _ => none
def c_spec_l20Loading : Ctr := ⟨[.m, .v .p], true, fun _ _ => none, some c_spec_l20LoadingR⟩
theorem m_spec_l20Loading : Meets Try.prog 104 c_spec_l20Loading := by
  refine meetsR_of (T := tyT) tyOK Try.func104 (by rfl) rfl (by decide) ?_
  intro args owns pre S hrun hpre
  simp only [c_spec_l20LoadingR] at hrun
  split at hrun
  case h_2 => cases hrun
  rename_i n b p
  cases hrun
  try dsimp only at hpre
  refine ⟨⟨[(0, .op 0 0), (1, .int n)], [(0, some (.var [.rs .u8 b, .int p]))], 68⟩, rfl, fun E hP hnt hnp => ?_⟩
  replace hnt : E.nt = 68 := hnt
  replace hnp : E.np = 2 := hnp
  have hT : ∀ t d, tyT t = some d → TyOK E.P t d := hP ▸ tyOK
  have hG : ∀ f C, Γof [(60, c_spec_l20Rd_odd), (80, c_spec_l20PlanZ), (99, c_spec_l9Slots), (131, c_spec_l20Order)] f = some C → Meets E.P f C := hΓof (by rw [hP]; exact ⟨m_spec_l20Rd_odd, m_spec_l20PlanZ, m_spec_l9Slots, m_spec_l20Order, trivial⟩)
  try simp only [show Try.f104.ntmps = 68 from rfl]
  have hc := hpre.1
  have hp := hpre.2.1
  have hn := hpre.2.2
  have hfl := @full_le
  refine W_seq (fun K1 hK1 => ?_)
  refine W_region hT hG [] [0, 1, 4] ?_
  rw [hnt]
  simp only [baseS, eq_self, implies_true, if_true, if_false, reduceIte, Nat.reduceBEq, Nat.reduceEqDiff, Nat.reduceLT, Nat.reduceAdd, reduceCtorEq, relC, callOK0, callOK1, fzE, c_spec_l20PlanZR, c_spec_l20OrderR, tyInt, tdInt, tyInts, tdInts, tyHull, tdHull, tyRdP, tdRdP, c_spec_l20Rd_odd, c_spec_l20PlanZ, c_spec_l9Slots, c_spec_l20Order, storeAV, setAll, FT.of, FT.setf, List.set_cons_zero, List.set_cons_succ, Option.isSome_some, Int.add_assoc, Int.reduceAdd, rowsAV, appAV, srcRows, srcFlat, reduceDIte, room, List.length_append, Nat.reduceLeDiff, elems, Int.mul_assoc, List.length_set]
  repeat (refine And.intro ?_ ?_; focus (first | exact ordP (by kernel_rfl) | with_reducible exact rfl | trivial | assumption | (simp only [inR]; omega) | omega | exact ⟨hc, by omega, by omega⟩ | exact ⟨hc, by omega, by omega, by omega⟩ | exact ⟨_, rfl⟩ | exact ⟨by omega, by omega⟩ | (simp only [List.length_append, List.length_cons, List.length_nil, room]; omega) | exact ⟨hc, by omega, by omega, ⟨_, hv1 trivial⟩⟩ | exact ⟨hc, by omega, by omega, ⟨_, hv1⟩⟩))
  refine hK1 _ ?_
  clear hK1
  refine W_seq (fun K2 hK2 => ?_)
  refine W_region hT hG [] [0, 1, 4, 8, 9, 10] ?_
  rw [hnt]
  simp only [baseS, eq_self, implies_true, if_true, if_false, reduceIte, Nat.reduceBEq, Nat.reduceEqDiff, Nat.reduceLT, Nat.reduceAdd, reduceCtorEq, relC, callOK0, callOK1, fzE, c_spec_l20PlanZR, c_spec_l20OrderR, tyInt, tdInt, tyInts, tdInts, tyHull, tdHull, tyRdP, tdRdP, c_spec_l20Rd_odd, c_spec_l20PlanZ, c_spec_l9Slots, c_spec_l20Order, storeAV, setAll, FT.of, FT.setf, List.set_cons_zero, List.set_cons_succ, Option.isSome_some, Int.add_assoc, Int.reduceAdd, rowsAV, appAV, srcRows, srcFlat, reduceDIte, room, List.length_append, Nat.reduceLeDiff, elems, Int.mul_assoc, List.length_set]
  repeat (refine And.intro ?_ ?_; focus (first | exact ordP (by kernel_rfl) | with_reducible exact rfl | trivial | assumption | (simp only [inR]; omega) | omega | exact ⟨hc, by omega, by omega⟩ | exact ⟨hc, by omega, by omega, by omega⟩ | exact ⟨_, rfl⟩ | exact ⟨by omega, by omega⟩ | (simp only [List.length_append, List.length_cons, List.length_nil, room]; omega) | exact ⟨hc, by omega, by omega, ⟨_, hv1 trivial⟩⟩ | exact ⟨hc, by omega, by omega, ⟨_, hv1⟩⟩))
  rintro _ ⟨y1, y2, y3, bs, pl, q1, rfl, hbl, hpl, hq1, hv1⟩
  have ho := oddP_box q1 (2 * n)
  simp only [baseS, eq_self, implies_true, if_true, if_false, reduceIte, Nat.reduceBEq, Nat.reduceEqDiff, Nat.reduceLT, Nat.reduceAdd, reduceCtorEq, relC, callOK0, callOK1, fzE, c_spec_l20PlanZR, c_spec_l20OrderR, tyInt, tdInt, tyInts, tdInts, tyHull, tdHull, tyRdP, tdRdP, c_spec_l20Rd_odd, c_spec_l20PlanZ, c_spec_l9Slots, c_spec_l20Order, storeAV, setAll, FT.of, FT.setf, List.set_cons_zero, List.set_cons_succ, Option.isSome_some, Int.add_assoc, Int.reduceAdd, rowsAV, appAV, srcRows, srcFlat, reduceDIte, room, List.length_append, Nat.reduceLeDiff, elems, Int.mul_assoc, List.length_set]
  repeat (refine And.intro ?_ ?_; focus (first | exact ordP (by kernel_rfl) | with_reducible exact rfl | trivial | assumption | (simp only [inR]; omega) | omega | exact ⟨hc, by omega, by omega⟩ | exact ⟨hc, by omega, by omega, by omega⟩ | exact ⟨_, rfl⟩ | exact ⟨by omega, by omega⟩ | (simp only [List.length_append, List.length_cons, List.length_nil, room]; omega) | exact ⟨hc, by omega, by omega, ⟨_, hv1 trivial⟩⟩ | exact ⟨hc, by omega, by omega, ⟨_, hv1⟩⟩))
  refine hK2 _ ?_
  clear hK2
  refine W_seq (fun K3 hK3 => ?_)
  refine W_seq (fun K4 hK4 => ?_)
  refine W_region hT hG [] [0, 1, 4, 8, 9, 10, 22] ?_
  rw [hnt]
  simp only [baseS, eq_self, implies_true, if_true, if_false, reduceIte, Nat.reduceBEq, Nat.reduceEqDiff, Nat.reduceLT, Nat.reduceAdd, reduceCtorEq, relC, callOK0, callOK1, fzE, c_spec_l20PlanZR, c_spec_l20OrderR, tyInt, tdInt, tyInts, tdInts, tyHull, tdHull, tyRdP, tdRdP, c_spec_l20Rd_odd, c_spec_l20PlanZ, c_spec_l9Slots, c_spec_l20Order, storeAV, setAll, FT.of, FT.setf, List.set_cons_zero, List.set_cons_succ, Option.isSome_some, Int.add_assoc, Int.reduceAdd, rowsAV, appAV, srcRows, srcFlat, reduceDIte, room, List.length_append, Nat.reduceLeDiff, elems, Int.mul_assoc, List.length_set]
  repeat (refine And.intro ?_ ?_; focus (first | exact ordP (by kernel_rfl) | with_reducible exact rfl | trivial | assumption | (simp only [inR]; omega) | omega | exact ⟨hc, by omega, by omega⟩ | exact ⟨hc, by omega, by omega, by omega⟩ | exact ⟨_, rfl⟩ | exact ⟨by omega, by omega⟩ | (simp only [List.length_append, List.length_cons, List.length_nil, room]; omega) | exact ⟨hc, by omega, by omega, ⟨_, hv1 trivial⟩⟩ | exact ⟨hc, by omega, by omega, ⟨_, hv1⟩⟩))
  refine hK4 _ ?_
  clear hK4
  refine W_cond (b := _) rfl (fun hc5 => ?_) (fun hc5 => ?_)
  · try simp only [decide_eq_true_eq, decide_eq_false_iff_not, ne_eq, Decidable.not_not, Bool.not_eq_true', Bool.not_eq_false', Bool.or_eq_true, Bool.and_eq_true, Bool.or_eq_false_iff, Bool.and_eq_false_iff] at hc5
    refine W_seq (fun K6 hK6 => ?_)
    refine W_region hT hG [] [0, 4, 8, 9, 10] ?_
    rw [hnt]
    simp only [baseS, eq_self, implies_true, if_true, if_false, reduceIte, Nat.reduceBEq, Nat.reduceEqDiff, Nat.reduceLT, Nat.reduceAdd, reduceCtorEq, relC, callOK0, callOK1, fzE, c_spec_l20PlanZR, c_spec_l20OrderR, tyInt, tdInt, tyInts, tdInts, tyHull, tdHull, tyRdP, tdRdP, c_spec_l20Rd_odd, c_spec_l20PlanZ, c_spec_l9Slots, c_spec_l20Order, storeAV, setAll, FT.of, FT.setf, List.set_cons_zero, List.set_cons_succ, Option.isSome_some, Int.add_assoc, Int.reduceAdd, rowsAV, appAV, srcRows, srcFlat, reduceDIte, room, List.length_append, Nat.reduceLeDiff, elems, Int.mul_assoc, List.length_set]
    repeat (refine And.intro ?_ ?_; focus (first | exact ordP (by kernel_rfl) | with_reducible exact rfl | trivial | assumption | (simp only [inR]; omega) | omega | exact ⟨hc, by omega, by omega⟩ | exact ⟨hc, by omega, by omega, by omega⟩ | exact ⟨_, rfl⟩ | exact ⟨by omega, by omega⟩ | (simp only [List.length_append, List.length_cons, List.length_nil, room]; omega) | exact ⟨hc, by omega, by omega, ⟨_, hv1 trivial⟩⟩ | exact ⟨hc, by omega, by omega, ⟨_, hv1⟩⟩))
    rintro _ ⟨z1, z2, z3, bs2, pl2, q2, rfl, hbl2, hpl2, hq2, hv2⟩
    have hf2 := full_le pl2
    simp only [baseS, eq_self, implies_true, if_true, if_false, reduceIte, Nat.reduceBEq, Nat.reduceEqDiff, Nat.reduceLT, Nat.reduceAdd, reduceCtorEq, relC, callOK0, callOK1, fzE, c_spec_l20PlanZR, c_spec_l20OrderR, tyInt, tdInt, tyInts, tdInts, tyHull, tdHull, tyRdP, tdRdP, c_spec_l20Rd_odd, c_spec_l20PlanZ, c_spec_l9Slots, c_spec_l20Order, storeAV, setAll, FT.of, FT.setf, List.set_cons_zero, List.set_cons_succ, Option.isSome_some, Int.add_assoc, Int.reduceAdd, rowsAV, appAV, srcRows, srcFlat, reduceDIte, room, List.length_append, Nat.reduceLeDiff, elems, Int.mul_assoc, List.length_set]
    repeat (refine And.intro ?_ ?_; focus (first | exact ordP (by kernel_rfl) | with_reducible exact rfl | trivial | assumption | (simp only [inR]; omega) | omega | exact ⟨hc, by omega, by omega⟩ | exact ⟨hc, by omega, by omega, by omega⟩ | exact ⟨_, rfl⟩ | exact ⟨by omega, by omega⟩ | (simp only [List.length_append, List.length_cons, List.length_nil, room]; omega) | exact ⟨hc, by omega, by omega, ⟨_, hv1 trivial⟩⟩ | exact ⟨hc, by omega, by omega, ⟨_, hv1⟩⟩))
    refine hK6 _ ?_
    clear hK6
    refine W_seq (fun K7 hK7 => ?_)
    refine W_region_draw hT hG (by rw [hP]; exact draws_ok) [] [0, 4, 5, 6, 7] ?_
    rw [hnt]
    simp only [baseS, eq_self, implies_true, if_true, if_false, reduceIte, Nat.reduceBEq, Nat.reduceEqDiff, Nat.reduceLT, Nat.reduceAdd, reduceCtorEq, relC, callOK0, callOK1, fzE, c_spec_l20PlanZR, c_spec_l20OrderR, tyInt, tdInt, tyInts, tdInts, tyHull, tdHull, tyRdP, tdRdP, c_spec_l20Rd_odd, c_spec_l20PlanZ, c_spec_l9Slots, c_spec_l20Order, storeAV, setAll, FT.of, FT.setf, List.set_cons_zero, List.set_cons_succ, Option.isSome_some, Int.add_assoc, Int.reduceAdd, rowsAV, appAV, srcRows, srcFlat, reduceDIte, room, List.length_append, Nat.reduceLeDiff, elems, Int.mul_assoc, List.length_set]
    repeat (refine And.intro ?_ ?_; focus (first | exact ordP (by kernel_rfl) | with_reducible exact rfl | trivial | assumption | (simp only [inR]; omega) | omega | exact ⟨hc, by omega, by omega⟩ | exact ⟨hc, by omega, by omega, by omega⟩ | exact ⟨_, rfl⟩ | exact ⟨by omega, by omega⟩ | (simp only [List.length_append, List.length_cons, List.length_nil, room]; omega) | exact ⟨hc, by omega, by omega, ⟨_, hv1 trivial⟩⟩ | exact ⟨hc, by omega, by omega, ⟨_, hv1⟩⟩))
    refine hK7 _ ?_
    clear hK7
    refine W_re [(0, .var), (4, .var), (5, .fz .box), (6, .fz .i64), (7, .fz .i64)] (by (try simp only [hnt, hnp]); rfl) ?_
    refine W_ret ?_
    simp only [thenQ, blockQ, loopQ, retR, retQ, reduceIte, Nat.reduceEqDiff]
    refine rr7 (retm 0 rfl rfl rfl rfl (.inl rfl) rfl) ?_
    refine ⟨by omega, by omega, ?_⟩
    first | omega | (simp only [List.length_set]; omega)
  · try simp only [decide_eq_true_eq, decide_eq_false_iff_not, ne_eq, Decidable.not_not, Bool.not_eq_true', Bool.not_eq_false', Bool.or_eq_true, Bool.and_eq_true, Bool.or_eq_false_iff, Bool.and_eq_false_iff] at hc5
    refine W_skip ?_
    simp only [thenQ, blockQ, loopQ, reduceIte, Nat.reduceEqDiff]
    refine hK3 _ ?_
    clear hK3
    refine W_seq (fun K8 hK8 => ?_)
    refine W_region hT hG [] [0, 1, 4, 8, 9, 10, 11] ?_
    rw [hnt]
    simp only [baseS, eq_self, implies_true, if_true, if_false, reduceIte, Nat.reduceBEq, Nat.reduceEqDiff, Nat.reduceLT, Nat.reduceAdd, reduceCtorEq, relC, callOK0, callOK1, fzE, c_spec_l20PlanZR, c_spec_l20OrderR, tyInt, tdInt, tyInts, tdInts, tyHull, tdHull, tyRdP, tdRdP, c_spec_l20Rd_odd, c_spec_l20PlanZ, c_spec_l9Slots, c_spec_l20Order, storeAV, setAll, FT.of, FT.setf, List.set_cons_zero, List.set_cons_succ, Option.isSome_some, Int.add_assoc, Int.reduceAdd, rowsAV, appAV, srcRows, srcFlat, reduceDIte, room, List.length_append, Nat.reduceLeDiff, elems, Int.mul_assoc, List.length_set]
    repeat (refine And.intro ?_ ?_; focus (first | exact ordP (by kernel_rfl) | with_reducible exact rfl | trivial | assumption | (simp only [inR]; omega) | omega | exact ⟨hc, by omega, by omega⟩ | exact ⟨hc, by omega, by omega, by omega⟩ | exact ⟨_, rfl⟩ | exact ⟨by omega, by omega⟩ | (simp only [List.length_append, List.length_cons, List.length_nil, room]; omega) | exact ⟨hc, by omega, by omega, ⟨_, hv1 trivial⟩⟩ | exact ⟨hc, by omega, by omega, ⟨_, hv1⟩⟩))
    rintro _ ⟨o, q3, rfl, ho1, hq3⟩
    have ho3 := oddP_box q3 (2 * n)
    simp only [baseS, eq_self, implies_true, if_true, if_false, reduceIte, Nat.reduceBEq, Nat.reduceEqDiff, Nat.reduceLT, Nat.reduceAdd, reduceCtorEq, relC, callOK0, callOK1, fzE, c_spec_l20PlanZR, c_spec_l20OrderR, tyInt, tdInt, tyInts, tdInts, tyHull, tdHull, tyRdP, tdRdP, c_spec_l20Rd_odd, c_spec_l20PlanZ, c_spec_l9Slots, c_spec_l20Order, storeAV, setAll, FT.of, FT.setf, List.set_cons_zero, List.set_cons_succ, Option.isSome_some, Int.add_assoc, Int.reduceAdd, rowsAV, appAV, srcRows, srcFlat, reduceDIte, room, List.length_append, Nat.reduceLeDiff, elems, Int.mul_assoc, List.length_set]
    repeat (refine And.intro ?_ ?_; focus (first | exact ordP (by kernel_rfl) | with_reducible exact rfl | trivial | assumption | (simp only [inR]; omega) | omega | exact ⟨hc, by omega, by omega⟩ | exact ⟨hc, by omega, by omega, by omega⟩ | exact ⟨_, rfl⟩ | exact ⟨by omega, by omega⟩ | (simp only [List.length_append, List.length_cons, List.length_nil, room]; omega) | exact ⟨hc, by omega, by omega, ⟨_, hv1 trivial⟩⟩ | exact ⟨hc, by omega, by omega, ⟨_, hv1⟩⟩))
    refine hK8 _ ?_
    clear hK8
    refine W_seq (fun K9 hK9 => ?_)
    refine W_seq (fun K10 hK10 => ?_)
    refine W_region hT hG [] [0, 4, 8, 9, 10, 11, 46] ?_
    rw [hnt]
    simp only [baseS, eq_self, implies_true, if_true, if_false, reduceIte, Nat.reduceBEq, Nat.reduceEqDiff, Nat.reduceLT, Nat.reduceAdd, reduceCtorEq, relC, callOK0, callOK1, fzE, c_spec_l20PlanZR, c_spec_l20OrderR, tyInt, tdInt, tyInts, tdInts, tyHull, tdHull, tyRdP, tdRdP, c_spec_l20Rd_odd, c_spec_l20PlanZ, c_spec_l9Slots, c_spec_l20Order, storeAV, setAll, FT.of, FT.setf, List.set_cons_zero, List.set_cons_succ, Option.isSome_some, Int.add_assoc, Int.reduceAdd, rowsAV, appAV, srcRows, srcFlat, reduceDIte, room, List.length_append, Nat.reduceLeDiff, elems, Int.mul_assoc, List.length_set]
    repeat (refine And.intro ?_ ?_; focus (first | exact ordP (by kernel_rfl) | with_reducible exact rfl | trivial | assumption | (simp only [inR]; omega) | omega | exact ⟨hc, by omega, by omega⟩ | exact ⟨hc, by omega, by omega, by omega⟩ | exact ⟨_, rfl⟩ | exact ⟨by omega, by omega⟩ | (simp only [List.length_append, List.length_cons, List.length_nil, room]; omega) | exact ⟨hc, by omega, by omega, ⟨_, hv1 trivial⟩⟩ | exact ⟨hc, by omega, by omega, ⟨_, hv1⟩⟩))
    refine hK10 _ ?_
    clear hK10
    refine W_cond (b := _) rfl (fun hc11 => ?_) (fun hc11 => ?_)
    · try simp only [decide_eq_true_eq, decide_eq_false_iff_not, ne_eq, Decidable.not_not, Bool.not_eq_true', Bool.not_eq_false', Bool.or_eq_true, Bool.and_eq_true, Bool.or_eq_false_iff, Bool.and_eq_false_iff] at hc11
      refine W_seq (fun K12 hK12 => ?_)
      refine W_region hT hG [] [0, 4, 8, 9, 10, 11, 12] ?_
      rw [hnt]
      simp only [baseS, eq_self, implies_true, if_true, if_false, reduceIte, Nat.reduceBEq, Nat.reduceEqDiff, Nat.reduceLT, Nat.reduceAdd, reduceCtorEq, relC, callOK0, callOK1, fzE, c_spec_l20PlanZR, c_spec_l20OrderR, tyInt, tdInt, tyInts, tdInts, tyHull, tdHull, tyRdP, tdRdP, c_spec_l20Rd_odd, c_spec_l20PlanZ, c_spec_l9Slots, c_spec_l20Order, storeAV, setAll, FT.of, FT.setf, List.set_cons_zero, List.set_cons_succ, Option.isSome_some, Int.add_assoc, Int.reduceAdd, rowsAV, appAV, srcRows, srcFlat, reduceDIte, room, List.length_append, Nat.reduceLeDiff, elems, Int.mul_assoc, List.length_set]
      repeat (refine And.intro ?_ ?_; focus (first | exact ordP (by kernel_rfl) | with_reducible exact rfl | trivial | assumption | (simp only [inR]; omega) | omega | exact ⟨hc, by omega, by omega⟩ | exact ⟨hc, by omega, by omega, by omega⟩ | exact ⟨_, rfl⟩ | exact ⟨by omega, by omega⟩ | (simp only [List.length_append, List.length_cons, List.length_nil, room]; omega) | exact ⟨hc, by omega, by omega, ⟨_, hv1 trivial⟩⟩ | exact ⟨hc, by omega, by omega, ⟨_, hv1⟩⟩))
      refine hK12 _ ?_
      clear hK12
      refine W_seq (fun K13 hK13 => ?_)
      refine W_region hT hG [] [0, 4, 8, 9, 10, 11, 12] ?_
      rw [hnt]
      simp only [baseS, eq_self, implies_true, if_true, if_false, reduceIte, Nat.reduceBEq, Nat.reduceEqDiff, Nat.reduceLT, Nat.reduceAdd, reduceCtorEq, relC, callOK0, callOK1, fzE, c_spec_l20PlanZR, c_spec_l20OrderR, tyInt, tdInt, tyInts, tdInts, tyHull, tdHull, tyRdP, tdRdP, c_spec_l20Rd_odd, c_spec_l20PlanZ, c_spec_l9Slots, c_spec_l20Order, storeAV, setAll, FT.of, FT.setf, List.set_cons_zero, List.set_cons_succ, Option.isSome_some, Int.add_assoc, Int.reduceAdd, rowsAV, appAV, srcRows, srcFlat, reduceDIte, room, List.length_append, Nat.reduceLeDiff, elems, Int.mul_assoc, List.length_set]
      repeat (refine And.intro ?_ ?_; focus (first | exact ordP (by kernel_rfl) | with_reducible exact rfl | trivial | assumption | (simp only [inR]; omega) | omega | exact ⟨hc, by omega, by omega⟩ | exact ⟨hc, by omega, by omega, by omega⟩ | exact ⟨_, rfl⟩ | exact ⟨by omega, by omega⟩ | (simp only [List.length_append, List.length_cons, List.length_nil, room]; omega) | exact ⟨hc, by omega, by omega, ⟨_, hv1 trivial⟩⟩ | exact ⟨hc, by omega, by omega, ⟨_, hv1⟩⟩))
      refine hK13 _ ?_
      clear hK13
      refine W_region hT hG [] [0, 4, 8, 9, 10, 11] ?_
      rw [hnt]
      simp only [baseS, eq_self, implies_true, if_true, if_false, reduceIte, Nat.reduceBEq, Nat.reduceEqDiff, Nat.reduceLT, Nat.reduceAdd, reduceCtorEq, relC, callOK0, callOK1, fzE, c_spec_l20PlanZR, c_spec_l20OrderR, tyInt, tdInt, tyInts, tdInts, tyHull, tdHull, tyRdP, tdRdP, c_spec_l20Rd_odd, c_spec_l20PlanZ, c_spec_l9Slots, c_spec_l20Order, storeAV, setAll, FT.of, FT.setf, List.set_cons_zero, List.set_cons_succ, Option.isSome_some, Int.add_assoc, Int.reduceAdd, rowsAV, appAV, srcRows, srcFlat, reduceDIte, room, List.length_append, Nat.reduceLeDiff, elems, Int.mul_assoc, List.length_set]
      repeat (refine And.intro ?_ ?_; focus (first | exact ordP (by kernel_rfl) | with_reducible exact rfl | trivial | assumption | (simp only [inR]; omega) | omega | exact ⟨hc, by omega, by omega⟩ | exact ⟨hc, by omega, by omega, by omega⟩ | exact ⟨_, rfl⟩ | exact ⟨by omega, by omega⟩ | (simp only [List.length_append, List.length_cons, List.length_nil, room]; omega) | exact ⟨hc, by omega, by omega, ⟨_, hv1 trivial⟩⟩ | exact ⟨hc, by omega, by omega, ⟨_, hv1⟩⟩))
      refine hK9 _ ?_
      clear hK9
      refine W_seq (fun K14 hK14 => ?_)
      refine W_region hT hG [] [0, 4, 5, 6, 7] ?_
      rw [hnt]
      simp only [baseS, eq_self, implies_true, if_true, if_false, reduceIte, Nat.reduceBEq, Nat.reduceEqDiff, Nat.reduceLT, Nat.reduceAdd, reduceCtorEq, relC, callOK0, callOK1, fzE, c_spec_l20PlanZR, c_spec_l20OrderR, tyInt, tdInt, tyInts, tdInts, tyHull, tdHull, tyRdP, tdRdP, c_spec_l20Rd_odd, c_spec_l20PlanZ, c_spec_l9Slots, c_spec_l20Order, storeAV, setAll, FT.of, FT.setf, List.set_cons_zero, List.set_cons_succ, Option.isSome_some, Int.add_assoc, Int.reduceAdd, rowsAV, appAV, srcRows, srcFlat, reduceDIte, room, List.length_append, Nat.reduceLeDiff, elems, Int.mul_assoc, List.length_set]
      repeat (refine And.intro ?_ ?_; focus (first | exact ordP (by kernel_rfl) | with_reducible exact rfl | trivial | assumption | (simp only [inR]; omega) | omega | exact ⟨hc, by omega, by omega⟩ | exact ⟨hc, by omega, by omega, by omega⟩ | exact ⟨_, rfl⟩ | exact ⟨by omega, by omega⟩ | (simp only [List.length_append, List.length_cons, List.length_nil, room]; omega) | exact ⟨hc, by omega, by omega, ⟨_, hv1 trivial⟩⟩ | exact ⟨hc, by omega, by omega, ⟨_, hv1⟩⟩))
      refine hK14 _ ?_
      clear hK14
      refine W_re [(0, .var), (4, .var), (5, .fz .box), (6, .fz .i64), (7, .fz .i64)] (by (try simp only [hnt, hnp]); rfl) ?_
      refine W_ret ?_
      simp only [thenQ, blockQ, loopQ, retR, retQ, reduceIte, Nat.reduceEqDiff]
      refine rr7 (retm 0 rfl rfl rfl rfl (.inl rfl) rfl) ?_
      refine ⟨by omega, by omega, ?_⟩
      first | omega | (simp only [List.length_set]; omega)
    · try simp only [decide_eq_true_eq, decide_eq_false_iff_not, ne_eq, Decidable.not_not, Bool.not_eq_true', Bool.not_eq_false', Bool.or_eq_true, Bool.and_eq_true, Bool.or_eq_false_iff, Bool.and_eq_false_iff] at hc11
      refine W_skip ?_
      simp only [thenQ, blockQ, loopQ, reduceIte, Nat.reduceEqDiff]
      refine hK9 _ ?_
      clear hK9
      refine W_seq (fun K15 hK15 => ?_)
      refine W_region hT hG [] [0, 4, 5, 6, 7] ?_
      rw [hnt]
      simp only [baseS, eq_self, implies_true, if_true, if_false, reduceIte, Nat.reduceBEq, Nat.reduceEqDiff, Nat.reduceLT, Nat.reduceAdd, reduceCtorEq, relC, callOK0, callOK1, fzE, c_spec_l20PlanZR, c_spec_l20OrderR, tyInt, tdInt, tyInts, tdInts, tyHull, tdHull, tyRdP, tdRdP, c_spec_l20Rd_odd, c_spec_l20PlanZ, c_spec_l9Slots, c_spec_l20Order, storeAV, setAll, FT.of, FT.setf, List.set_cons_zero, List.set_cons_succ, Option.isSome_some, Int.add_assoc, Int.reduceAdd, rowsAV, appAV, srcRows, srcFlat, reduceDIte, room, List.length_append, Nat.reduceLeDiff, elems, Int.mul_assoc, List.length_set]
      repeat (refine And.intro ?_ ?_; focus (first | exact ordP (by kernel_rfl) | with_reducible exact rfl | trivial | assumption | (simp only [inR]; omega) | omega | exact ⟨hc, by omega, by omega⟩ | exact ⟨hc, by omega, by omega, by omega⟩ | exact ⟨_, rfl⟩ | exact ⟨by omega, by omega⟩ | (simp only [List.length_append, List.length_cons, List.length_nil, room]; omega) | exact ⟨hc, by omega, by omega, ⟨_, hv1 trivial⟩⟩ | exact ⟨hc, by omega, by omega, ⟨_, hv1⟩⟩))
      refine hK15 _ ?_
      clear hK15
      refine W_re [(0, .var), (4, .var), (5, .fz .box), (6, .fz .i64), (7, .fz .i64)] (by (try simp only [hnt, hnp]); rfl) ?_
      refine W_ret ?_
      simp only [thenQ, blockQ, loopQ, retR, retQ, reduceIte, Nat.reduceEqDiff]
      refine rr7 (retm 0 rfl rfl rfl rfl (.inl rfl) rfl) ?_
      refine ⟨by omega, by omega, ?_⟩
      first | omega | (simp only [List.length_set]; omega)

def c_spec_DrawWorstHeelR : List AV → List Own → Option (Prop × (CRes → Prop)) := fun xs os => match xs, os with
    | [.rs .u8 b], [] => some (∀ x ∈ b, 0 ≤ x ∧ x ≤ 255, fun R => ∃ (y1 : Int) (y2 : Int) (y3 : Int) (bs : List BoxD) (pl : List Int) (o : List Int), R = ⟨True, .tup [.agg [.int y1, .int y2, .int y3], .rs .box bs, .rs .i64 pl, .rs .i64 o], [], []⟩ ∧ (bs.length ≤ 12 ∧ pl.length ≤ 37 ∧ o.length ≤ 37))
    | _, _ => none
def c_spec_DrawWorstHeel : Ctr := ⟨[.v (.r .u8)], true, fun _ _ => none, some c_spec_DrawWorstHeelR⟩
theorem m_spec_DrawWorstHeel : Meets Try.prog 54 c_spec_DrawWorstHeel := by
  refine meetsR_of (T := tyT) tyOK Try.func54 (by rfl) rfl (by decide) ?_
  intro args owns pre S hrun hpre
  simp only [c_spec_DrawWorstHeelR] at hrun
  split at hrun
  case h_2 => cases hrun
  rename_i b
  cases hrun
  try dsimp only at hpre
  refine ⟨_, rfl, fun E hP hnt hnp => ?_⟩
  replace hnt : E.nt = 13 := hnt
  replace hnp : E.np = 1 := hnp
  have hT : ∀ t d, tyT t = some d → TyOK E.P t d := hP ▸ tyOK
  have hG : ∀ f C, Γof [(57, c_spec_l20Open), (104, c_spec_l20Loading)] f = some C → Meets E.P f C := hΓof (by rw [hP]; exact ⟨m_spec_l20Open, m_spec_l20Loading, trivial⟩)
  try simp only [show Try.f54.ntmps = 13 from rfl]
  have hc := code_take hpre
  refine W_seq (fun K1 hK1 => ?_)
  refine W_region hT hG [] [0, 2] ?_
  rw [hnt]
  simp only [baseS, eq_self, implies_true, if_true, if_false, reduceIte, Nat.reduceBEq, Nat.reduceEqDiff, Nat.reduceLT, Nat.reduceAdd, reduceCtorEq, relC, callOK0, callOK1, fzE, c_spec_l20LoadingR, tyInt, tdInt, tyBytes, tdBytes, tyHull, tdHull, tyRdP, tdRdP, c_spec_l20Open, c_spec_l20Loading, storeAV, setAll, FT.of, FT.setf, List.set_cons_zero, List.set_cons_succ, Option.isSome_some, Int.add_assoc, Int.reduceAdd, rowsAV, appAV, srcRows, srcFlat, reduceDIte, room, List.length_append, Nat.reduceLeDiff, elems, Int.mul_assoc]
  repeat (refine And.intro ?_ ?_; focus (first | exact ordP (by kernel_rfl) | with_reducible exact rfl | trivial | assumption | (simp only [inR]; omega) | omega | exact ⟨hc, by omega, by omega⟩ | exact ⟨hc, by omega, by omega, by omega⟩ | exact ⟨_, rfl⟩ | exact ⟨by omega, by omega⟩ | (simp only [List.length_append, List.length_cons, List.length_nil, room]; omega)))
  refine hK1 _ ?_
  clear hK1
  refine W_seq (fun K2 hK2 => ?_)
  refine W_region hT hG [] [2, 3, 4, 5] ?_
  rw [hnt]
  simp only [baseS, eq_self, implies_true, if_true, if_false, reduceIte, Nat.reduceBEq, Nat.reduceEqDiff, Nat.reduceLT, Nat.reduceAdd, reduceCtorEq, relC, callOK0, callOK1, fzE, c_spec_l20LoadingR, tyInt, tdInt, tyBytes, tdBytes, tyHull, tdHull, tyRdP, tdRdP, c_spec_l20Open, c_spec_l20Loading, storeAV, setAll, FT.of, FT.setf, List.set_cons_zero, List.set_cons_succ, Option.isSome_some, Int.add_assoc, Int.reduceAdd, rowsAV, appAV, srcRows, srcFlat, reduceDIte, room, List.length_append, Nat.reduceLeDiff, elems, Int.mul_assoc]
  repeat (refine And.intro ?_ ?_; focus (first | exact ordP (by kernel_rfl) | with_reducible exact rfl | trivial | assumption | (simp only [inR]; omega) | omega | exact ⟨hc, by omega, by omega⟩ | exact ⟨hc, by omega, by omega, by omega⟩ | exact ⟨_, rfl⟩ | exact ⟨by omega, by omega⟩ | (simp only [List.length_append, List.length_cons, List.length_nil, room]; omega)))
  rintro _ ⟨y1, y2, y3, bs, pl, o, q, rfl, hbl, hpl, hol⟩
  simp only [baseS, eq_self, implies_true, if_true, if_false, reduceIte, Nat.reduceBEq, Nat.reduceEqDiff, Nat.reduceLT, Nat.reduceAdd, reduceCtorEq, relC, callOK0, callOK1, fzE, c_spec_l20LoadingR, tyInt, tdInt, tyBytes, tdBytes, tyHull, tdHull, tyRdP, tdRdP, c_spec_l20Open, c_spec_l20Loading, storeAV, setAll, FT.of, FT.setf, List.set_cons_zero, List.set_cons_succ, Option.isSome_some, Int.add_assoc, Int.reduceAdd, rowsAV, appAV, srcRows, srcFlat, reduceDIte, room, List.length_append, Nat.reduceLeDiff, elems, Int.mul_assoc]
  repeat (refine And.intro ?_ ?_; focus (first | exact ordP (by kernel_rfl) | with_reducible exact rfl | trivial | assumption | (simp only [inR]; omega) | omega | exact ⟨hc, by omega, by omega⟩ | exact ⟨hc, by omega, by omega, by omega⟩ | exact ⟨_, rfl⟩ | exact ⟨by omega, by omega⟩ | (simp only [List.length_append, List.length_cons, List.length_nil, room]; omega)))
  refine hK2 _ ?_
  clear hK2
  refine W_re [(2, .var), (3, .fz .box), (4, .fz .i64), (5, .fz .i64)] (by (try simp only [hnt, hnp]); rfl) ?_
  refine W_ret ?_
  simp only [thenQ, blockQ, loopQ, retR, retQ, reduceIte, Nat.reduceEqDiff]
  refine rr6 (ret0 rfl rfl rfl (.inl rfl) rfl) ?_
  exact ⟨hbl, hpl, hol⟩

end Go.Proofs.Ytpiaeckkjdcifaa
