/- Walks over the arms of slots. No condition. -/
import Derived.Test.YtehhmjnjogckeaaLoadA
namespace Go.Proofs.Ytehhmjnjogckeaa
open Go
set_option linter.unusedVariables false
set_option linter.unusedSimpArgs false

def c_impl_Hull_heelArm : Ctr where
  modes := [.v .p, .v .p]
  al := false
  run := fun xs os => match xs, os with
    | [.agg [.int b, .int r, .int t], .int s], [] => some ⟨(0 ≤ s ∧ s ≤ 35) ∧ (1 ≤ t ∧ t ≤ 3) ∧ (1 ≤ r ∧ r ≤ 3), .int (2 * (s / t % r) - (r - 1)), [], []⟩
    | _, _ => none
theorem m_impl_Hull_heelArm : Meets Try.prog 80 c_impl_Hull_heelArm := by
  refine meets_of (T := tyT) tyOK Try.func80 (by rfl) rfl (by decide) ?_
  intro args owns R hrun hpre
  simp only [c_impl_Hull_heelArm] at hrun
  split at hrun
  case h_2 => cases hrun
  rename_i b r t s
  cases hrun
  dsimp only at hpre
  refine ⟨_, rfl, fun E hP hnt hnp => ?_⟩
  replace hnt : E.nt = 16 := hnt
  replace hnp : E.np = 2 := hnp
  have hT : ∀ t d, tyT t = some d → TyOK E.P t d := hP ▸ tyOK
  have hG : ∀ f C, Γof [(103, c_impl_Hull_stack)] f = some C → Meets E.P f C := hΓof (by rw [hP]; exact ⟨m_impl_Hull_stack, trivial⟩)
  try simp only [show Try.f80.ntmps = 16 from rfl]
  have hd := div_le hpre.1.1 (show 0 < t by omega)
  have q3 : 0 ≤ s / t % r := Int.emod_nonneg _ (by omega)
  have q4 : s / t % r < r := Int.emod_lt_of_pos _ (by omega)
  refine W_seq (fun K1 hK1 => ?_)
  refine W_region hT hG [] [1, 2] ?_
  rw [hnt]
  simp only [eq_self, flagB, isPick, Option.all, Option.isSome, sliceAV, Option.toArray, rng1, rng2, rng3, List.zip_nil_right, List.nodup_cons, List.not_mem_nil, not_false_eq_true, List.contains_cons, Nat.reduceBEq, Bool.or_false, Bool.false_and, Bool.and_false, List.isEmpty_nil, List.append_nil, Call.operands, Array.toList_append, List.toList_toArray, imp_self, Bool.cond_false_right, Bool.cond_true_left, opsW, opsD, stepG, stepG0, fzE, nilCmp, nilC, isNilC, nb, stepOp, evA, ofVal, look, Option.map, Option.bind, dstOK, thenQ, keepS_eq, keepL, memb, AState.app, guardP, binAV, opQ, stripV, stripP, pickAV, Op.operands, loadAV, idxAV, lenAV, isStr, FT.avs, FT.size, FT.dflt, applyUps, noH, Nat.reduceEqDiff, if_true, if_false, decide_true, Nat.reduceLT, true_and, and_true, List.nil_append, List.cons_append, Nat.add_zero, Nat.reduceAdd, Bool.false_eq_true, List.getElem?_cons_zero, List.getElem?_cons_succ, List.isEmpty_nil, reduceIte, reduceCtorEq, implies_true, cellsAV, cell1, cleanV, cleanL, cleanO, ownBox, List.contains_nil, List.all_cons, List.all_nil, Bool.and_true, Bool.true_and, List.length_cons, List.length_nil, evL, conv, callOK, boundV, boundL, flatO, renV, renL, List.map_nil, List.map_cons, List.zip_nil_left, List.zip_cons_cons, List.range_zero, List.nodup_nil, Bool.or_true, Bool.true_or, Bool.not_false, Bool.not_true, Bool.false_or, List.isEmpty_cons, Γof, and_self, Nat.lt_add_one, Nat.zero_lt_succ, gt_iff_lt, tyInt, tdInt, tyHull, tdHull, c_impl_Hull_stack]
  repeat (refine And.intro ?_ ?_; focus (first | exact ordP (by kernel_rfl) | with_reducible exact rfl | assumption | trivial | (simp only [inR]; omega) | omega | (intro hh; (try obtain ⟨hh1, hh2⟩ := hh); (repeat' apply And.intro) <;> first | assumption | (simp only [inR]; omega) | omega | (intros; (repeat' apply And.intro) <;> first | assumption | (simp only [inR]; omega) | omega)) | (intros; (repeat' apply And.intro) <;> first | assumption | (simp only [inR]; omega) | omega | (simp_all; done) | (simp_all [inR]; omega))))
  refine hK1 _ ?_
  clear hK1
  refine W_seq (fun K2 hK2 => ?_)
  refine W_region_draw hT hG (by rw [hP]; exact draws_ok) [] [4] ?_
  rw [hnt]
  simp only [eq_self, flagB, isPick, Option.all, Option.isSome, sliceAV, Option.toArray, rng1, rng2, rng3, List.zip_nil_right, List.nodup_cons, List.not_mem_nil, not_false_eq_true, List.contains_cons, Nat.reduceBEq, Bool.or_false, Bool.false_and, Bool.and_false, List.isEmpty_nil, List.append_nil, Call.operands, Array.toList_append, List.toList_toArray, imp_self, Bool.cond_false_right, Bool.cond_true_left, opsW, opsD, stepG, stepG0, fzE, nilCmp, nilC, isNilC, nb, stepOp, evA, ofVal, look, Option.map, Option.bind, dstOK, thenQ, keepS_eq, keepL, memb, AState.app, guardP, binAV, opQ, stripV, stripP, pickAV, Op.operands, loadAV, idxAV, lenAV, isStr, FT.avs, FT.size, FT.dflt, applyUps, noH, Nat.reduceEqDiff, if_true, if_false, decide_true, Nat.reduceLT, true_and, and_true, List.nil_append, List.cons_append, Nat.add_zero, Nat.reduceAdd, Bool.false_eq_true, List.getElem?_cons_zero, List.getElem?_cons_succ, List.isEmpty_nil, reduceIte, reduceCtorEq, implies_true, cellsAV, cell1, cleanV, cleanL, cleanO, ownBox, List.contains_nil, List.all_cons, List.all_nil, Bool.and_true, Bool.true_and, List.length_cons, List.length_nil, evL, conv, callOK, boundV, boundL, flatO, renV, renL, List.map_nil, List.map_cons, List.zip_nil_left, List.zip_cons_cons, List.range_zero, List.nodup_nil, Bool.or_true, Bool.true_or, Bool.not_false, Bool.not_true, Bool.false_or, List.isEmpty_cons, Γof, and_self, Nat.lt_add_one, Nat.zero_lt_succ, gt_iff_lt, tyInt, tdInt, tyHull, tdHull, c_impl_Hull_stack]
  repeat (refine And.intro ?_ ?_; focus (first | exact ordP (by kernel_rfl) | with_reducible exact rfl | assumption | trivial | (simp only [inR]; omega) | omega | (intro hh; (try obtain ⟨hh1, hh2⟩ := hh); (repeat' apply And.intro) <;> first | assumption | (simp only [inR]; omega) | omega | (intros; (repeat' apply And.intro) <;> first | assumption | (simp only [inR]; omega) | omega)) | (intros; (repeat' apply And.intro) <;> first | assumption | (simp only [inR]; omega) | omega | (simp_all; done) | (simp_all [inR]; omega))))
  refine hK2 _ ?_
  clear hK2
  refine W_ret ?_
  simp only [thenQ, blockQ, loopQ, retQ, reduceIte, Nat.reduceEqDiff]
  refine ret0 ?_ rfl rfl (.inr rfl) rfl
  simp only [show Try.f80.results.toList = [ResultVar.tmp 4] from rfl, resAV, resL, look, Nat.reduceEqDiff, reduceIte, tyHull, tdHull, applyUps, noH, isStr, List.length_cons, List.length_nil, Nat.reduceAdd, and_self]
  all_goals (
    first | rfl | (simp_all; done))

def c_spec_l8Heel : Ctr where
  modes := [.v .p, .v .p]
  al := false
  run := fun xs os => match xs, os with
    | [.agg [.int b, .int r, .int t], .int s], [] => some ⟨1 ≤ r ∧ r ≤ 3, .int (2 * plR b r t s - (r - 1)), [], []⟩
    | _, _ => none
theorem m_spec_l8Heel : Meets Try.prog 77 c_spec_l8Heel := by
  refine meets_of (T := tyT) tyOK Try.func77 (by rfl) rfl (by decide) ?_
  intro args owns R hrun hpre
  simp only [c_spec_l8Heel] at hrun
  split at hrun
  case h_2 => cases hrun
  rename_i b r t s
  cases hrun
  dsimp only at hpre
  refine ⟨_, rfl, fun E hP hnt hnp => ?_⟩
  replace hnt : E.nt = 21 := hnt
  replace hnp : E.np = 2 := hnp
  have hT : ∀ t d, tyT t = some d → TyOK E.P t d := hP ▸ tyOK
  have hG : ∀ f C, Γof [(122, c_spec_PlaceOf)] f = some C → Meets E.P f C := hΓof (by rw [hP]; exact ⟨m_spec_PlaceOf, trivial⟩)
  try simp only [show Try.f77.ntmps = 21 from rfl]
  have hpl := pl3_le b r t s
  refine W_seq (fun K1 hK1 => ?_)
  refine W_region hT hG [] [1, 2] ?_
  rw [hnt]
  simp only [eq_self, flagB, isPick, Option.all, Option.isSome, sliceAV, Option.toArray, rng1, rng2, rng3, List.zip_nil_right, List.nodup_cons, List.not_mem_nil, not_false_eq_true, List.contains_cons, Nat.reduceBEq, Bool.or_false, Bool.false_and, Bool.and_false, List.isEmpty_nil, List.append_nil, Call.operands, Array.toList_append, List.toList_toArray, imp_self, Bool.cond_false_right, Bool.cond_true_left, opsW, opsD, stepG, stepG0, fzE, nilCmp, nilC, isNilC, nb, stepOp, evA, ofVal, look, Option.map, Option.bind, dstOK, thenQ, keepS_eq, keepL, memb, AState.app, guardP, binAV, opQ, stripV, stripP, pickAV, Op.operands, loadAV, idxAV, lenAV, isStr, FT.avs, FT.size, FT.dflt, applyUps, noH, Nat.reduceEqDiff, if_true, if_false, decide_true, Nat.reduceLT, true_and, and_true, List.nil_append, List.cons_append, Nat.add_zero, Nat.reduceAdd, Bool.false_eq_true, List.getElem?_cons_zero, List.getElem?_cons_succ, List.isEmpty_nil, reduceIte, reduceCtorEq, implies_true, cellsAV, cell1, cleanV, cleanL, cleanO, ownBox, List.contains_nil, List.all_cons, List.all_nil, Bool.and_true, Bool.true_and, List.length_cons, List.length_nil, evL, conv, callOK, boundV, boundL, flatO, renV, renL, List.map_nil, List.map_cons, List.zip_nil_left, List.zip_cons_cons, List.range_zero, List.nodup_nil, Bool.or_true, Bool.true_or, Bool.not_false, Bool.not_true, Bool.false_or, List.isEmpty_cons, Γof, and_self, Nat.lt_add_one, Nat.zero_lt_succ, gt_iff_lt, tyInt, tdInt, tyHull, tdHull, c_spec_PlaceOf]
  repeat (refine And.intro ?_ ?_; focus (first | exact ordP (by kernel_rfl) | with_reducible exact rfl | assumption | trivial | (simp only [inR]; omega) | omega | (intro hh; (try obtain ⟨hh1, hh2⟩ := hh); (repeat' apply And.intro) <;> first | assumption | (simp only [inR]; omega) | omega | (intros; (repeat' apply And.intro) <;> first | assumption | (simp only [inR]; omega) | omega)) | (intros; (repeat' apply And.intro) <;> first | assumption | (simp only [inR]; omega) | omega | (simp_all; done) | (simp_all [inR]; omega))))
  refine hK1 _ ?_
  clear hK1
  refine W_seq (fun K2 hK2 => ?_)
  refine W_region hT hG [] [2, 6] ?_
  rw [hnt]
  simp only [eq_self, flagB, isPick, Option.all, Option.isSome, sliceAV, Option.toArray, rng1, rng2, rng3, List.zip_nil_right, List.nodup_cons, List.not_mem_nil, not_false_eq_true, List.contains_cons, Nat.reduceBEq, Bool.or_false, Bool.false_and, Bool.and_false, List.isEmpty_nil, List.append_nil, Call.operands, Array.toList_append, List.toList_toArray, imp_self, Bool.cond_false_right, Bool.cond_true_left, opsW, opsD, stepG, stepG0, fzE, nilCmp, nilC, isNilC, nb, stepOp, evA, ofVal, look, Option.map, Option.bind, dstOK, thenQ, keepS_eq, keepL, memb, AState.app, guardP, binAV, opQ, stripV, stripP, pickAV, Op.operands, loadAV, idxAV, lenAV, isStr, FT.avs, FT.size, FT.dflt, applyUps, noH, Nat.reduceEqDiff, if_true, if_false, decide_true, Nat.reduceLT, true_and, and_true, List.nil_append, List.cons_append, Nat.add_zero, Nat.reduceAdd, Bool.false_eq_true, List.getElem?_cons_zero, List.getElem?_cons_succ, List.isEmpty_nil, reduceIte, reduceCtorEq, implies_true, cellsAV, cell1, cleanV, cleanL, cleanO, ownBox, List.contains_nil, List.all_cons, List.all_nil, Bool.and_true, Bool.true_and, List.length_cons, List.length_nil, evL, conv, callOK, boundV, boundL, flatO, renV, renL, List.map_nil, List.map_cons, List.zip_nil_left, List.zip_cons_cons, List.range_zero, List.nodup_nil, Bool.or_true, Bool.true_or, Bool.not_false, Bool.not_true, Bool.false_or, List.isEmpty_cons, Γof, and_self, Nat.lt_add_one, Nat.zero_lt_succ, gt_iff_lt, tyInt, tdInt, tyHull, tdHull, c_spec_PlaceOf]
  repeat (refine And.intro ?_ ?_; focus (first | exact ordP (by kernel_rfl) | with_reducible exact rfl | assumption | trivial | (simp only [inR]; omega) | omega | (intro hh; (try obtain ⟨hh1, hh2⟩ := hh); (repeat' apply And.intro) <;> first | assumption | (simp only [inR]; omega) | omega | (intros; (repeat' apply And.intro) <;> first | assumption | (simp only [inR]; omega) | omega)) | (intros; (repeat' apply And.intro) <;> first | assumption | (simp only [inR]; omega) | omega | (simp_all; done) | (simp_all [inR]; omega))))
  refine hK2 _ ?_
  clear hK2
  refine W_seq (fun K3 hK3 => ?_)
  refine W_region hT hG [] [4] ?_
  rw [hnt]
  simp only [eq_self, flagB, isPick, Option.all, Option.isSome, sliceAV, Option.toArray, rng1, rng2, rng3, List.zip_nil_right, List.nodup_cons, List.not_mem_nil, not_false_eq_true, List.contains_cons, Nat.reduceBEq, Bool.or_false, Bool.false_and, Bool.and_false, List.isEmpty_nil, List.append_nil, Call.operands, Array.toList_append, List.toList_toArray, imp_self, Bool.cond_false_right, Bool.cond_true_left, opsW, opsD, stepG, stepG0, fzE, nilCmp, nilC, isNilC, nb, stepOp, evA, ofVal, look, Option.map, Option.bind, dstOK, thenQ, keepS_eq, keepL, memb, AState.app, guardP, binAV, opQ, stripV, stripP, pickAV, Op.operands, loadAV, idxAV, lenAV, isStr, FT.avs, FT.size, FT.dflt, applyUps, noH, Nat.reduceEqDiff, if_true, if_false, decide_true, Nat.reduceLT, true_and, and_true, List.nil_append, List.cons_append, Nat.add_zero, Nat.reduceAdd, Bool.false_eq_true, List.getElem?_cons_zero, List.getElem?_cons_succ, List.isEmpty_nil, reduceIte, reduceCtorEq, implies_true, cellsAV, cell1, cleanV, cleanL, cleanO, ownBox, List.contains_nil, List.all_cons, List.all_nil, Bool.and_true, Bool.true_and, List.length_cons, List.length_nil, evL, conv, callOK, boundV, boundL, flatO, renV, renL, List.map_nil, List.map_cons, List.zip_nil_left, List.zip_cons_cons, List.range_zero, List.nodup_nil, Bool.or_true, Bool.true_or, Bool.not_false, Bool.not_true, Bool.false_or, List.isEmpty_cons, Γof, and_self, Nat.lt_add_one, Nat.zero_lt_succ, gt_iff_lt, tyInt, tdInt, tyHull, tdHull, c_spec_PlaceOf]
  repeat (refine And.intro ?_ ?_; focus (first | exact ordP (by kernel_rfl) | with_reducible exact rfl | assumption | trivial | (simp only [inR]; omega) | omega | (intro hh; (try obtain ⟨hh1, hh2⟩ := hh); (repeat' apply And.intro) <;> first | assumption | (simp only [inR]; omega) | omega | (intros; (repeat' apply And.intro) <;> first | assumption | (simp only [inR]; omega) | omega)) | (intros; (repeat' apply And.intro) <;> first | assumption | (simp only [inR]; omega) | omega | (simp_all; done) | (simp_all [inR]; omega))))
  refine hK3 _ ?_
  clear hK3
  refine W_ret ?_
  simp only [thenQ, blockQ, loopQ, retQ, reduceIte, Nat.reduceEqDiff]
  refine ret0 ?_ rfl rfl (.inr rfl) rfl
  simp only [show Try.f77.results.toList = [ResultVar.tmp 4] from rfl, resAV, resL, look, Nat.reduceEqDiff, reduceIte, tyHull, tdHull, applyUps, noH, isStr, List.length_cons, List.length_nil, Nat.reduceAdd, and_self]
  all_goals (
    first | rfl | (simp_all; done))

def c_spec_l8Trim : Ctr where
  modes := [.v .p, .v .p]
  al := false
  run := fun xs os => match xs, os with
    | [.agg [.int b, .int r, .int t], .int s], [] => some ⟨1 ≤ b ∧ b ≤ 4, .int (2 * plB b r t s - (b - 1)), [], []⟩
    | _, _ => none
theorem m_spec_l8Trim : Meets Try.prog 119 c_spec_l8Trim := by
  refine meets_of (T := tyT) tyOK Try.func119 (by rfl) rfl (by decide) ?_
  intro args owns R hrun hpre
  simp only [c_spec_l8Trim] at hrun
  split at hrun
  case h_2 => cases hrun
  rename_i b r t s
  cases hrun
  dsimp only at hpre
  refine ⟨_, rfl, fun E hP hnt hnp => ?_⟩
  replace hnt : E.nt = 21 := hnt
  replace hnp : E.np = 2 := hnp
  have hT : ∀ t d, tyT t = some d → TyOK E.P t d := hP ▸ tyOK
  have hG : ∀ f C, Γof [(122, c_spec_PlaceOf)] f = some C → Meets E.P f C := hΓof (by rw [hP]; exact ⟨m_spec_PlaceOf, trivial⟩)
  try simp only [show Try.f119.ntmps = 21 from rfl]
  have hpl := pl3_le b r t s
  refine W_seq (fun K1 hK1 => ?_)
  refine W_region hT hG [] [1, 2] ?_
  rw [hnt]
  simp only [eq_self, flagB, isPick, Option.all, Option.isSome, sliceAV, Option.toArray, rng1, rng2, rng3, List.zip_nil_right, List.nodup_cons, List.not_mem_nil, not_false_eq_true, List.contains_cons, Nat.reduceBEq, Bool.or_false, Bool.false_and, Bool.and_false, List.isEmpty_nil, List.append_nil, Call.operands, Array.toList_append, List.toList_toArray, imp_self, Bool.cond_false_right, Bool.cond_true_left, opsW, opsD, stepG, stepG0, fzE, nilCmp, nilC, isNilC, nb, stepOp, evA, ofVal, look, Option.map, Option.bind, dstOK, thenQ, keepS_eq, keepL, memb, AState.app, guardP, binAV, opQ, stripV, stripP, pickAV, Op.operands, loadAV, idxAV, lenAV, isStr, FT.avs, FT.size, FT.dflt, applyUps, noH, Nat.reduceEqDiff, if_true, if_false, decide_true, Nat.reduceLT, true_and, and_true, List.nil_append, List.cons_append, Nat.add_zero, Nat.reduceAdd, Bool.false_eq_true, List.getElem?_cons_zero, List.getElem?_cons_succ, List.isEmpty_nil, reduceIte, reduceCtorEq, implies_true, cellsAV, cell1, cleanV, cleanL, cleanO, ownBox, List.contains_nil, List.all_cons, List.all_nil, Bool.and_true, Bool.true_and, List.length_cons, List.length_nil, evL, conv, callOK, boundV, boundL, flatO, renV, renL, List.map_nil, List.map_cons, List.zip_nil_left, List.zip_cons_cons, List.range_zero, List.nodup_nil, Bool.or_true, Bool.true_or, Bool.not_false, Bool.not_true, Bool.false_or, List.isEmpty_cons, Γof, and_self, Nat.lt_add_one, Nat.zero_lt_succ, gt_iff_lt, tyInt, tdInt, tyHull, tdHull, c_spec_PlaceOf]
  repeat (refine And.intro ?_ ?_; focus (first | exact ordP (by kernel_rfl) | with_reducible exact rfl | assumption | trivial | (simp only [inR]; omega) | omega | (intro hh; (try obtain ⟨hh1, hh2⟩ := hh); (repeat' apply And.intro) <;> first | assumption | (simp only [inR]; omega) | omega | (intros; (repeat' apply And.intro) <;> first | assumption | (simp only [inR]; omega) | omega)) | (intros; (repeat' apply And.intro) <;> first | assumption | (simp only [inR]; omega) | omega | (simp_all; done) | (simp_all [inR]; omega))))
  refine hK1 _ ?_
  clear hK1
  refine W_seq (fun K2 hK2 => ?_)
  refine W_region hT hG [] [2, 5] ?_
  rw [hnt]
  simp only [eq_self, flagB, isPick, Option.all, Option.isSome, sliceAV, Option.toArray, rng1, rng2, rng3, List.zip_nil_right, List.nodup_cons, List.not_mem_nil, not_false_eq_true, List.contains_cons, Nat.reduceBEq, Bool.or_false, Bool.false_and, Bool.and_false, List.isEmpty_nil, List.append_nil, Call.operands, Array.toList_append, List.toList_toArray, imp_self, Bool.cond_false_right, Bool.cond_true_left, opsW, opsD, stepG, stepG0, fzE, nilCmp, nilC, isNilC, nb, stepOp, evA, ofVal, look, Option.map, Option.bind, dstOK, thenQ, keepS_eq, keepL, memb, AState.app, guardP, binAV, opQ, stripV, stripP, pickAV, Op.operands, loadAV, idxAV, lenAV, isStr, FT.avs, FT.size, FT.dflt, applyUps, noH, Nat.reduceEqDiff, if_true, if_false, decide_true, Nat.reduceLT, true_and, and_true, List.nil_append, List.cons_append, Nat.add_zero, Nat.reduceAdd, Bool.false_eq_true, List.getElem?_cons_zero, List.getElem?_cons_succ, List.isEmpty_nil, reduceIte, reduceCtorEq, implies_true, cellsAV, cell1, cleanV, cleanL, cleanO, ownBox, List.contains_nil, List.all_cons, List.all_nil, Bool.and_true, Bool.true_and, List.length_cons, List.length_nil, evL, conv, callOK, boundV, boundL, flatO, renV, renL, List.map_nil, List.map_cons, List.zip_nil_left, List.zip_cons_cons, List.range_zero, List.nodup_nil, Bool.or_true, Bool.true_or, Bool.not_false, Bool.not_true, Bool.false_or, List.isEmpty_cons, Γof, and_self, Nat.lt_add_one, Nat.zero_lt_succ, gt_iff_lt, tyInt, tdInt, tyHull, tdHull, c_spec_PlaceOf]
  repeat (refine And.intro ?_ ?_; focus (first | exact ordP (by kernel_rfl) | with_reducible exact rfl | assumption | trivial | (simp only [inR]; omega) | omega | (intro hh; (try obtain ⟨hh1, hh2⟩ := hh); (repeat' apply And.intro) <;> first | assumption | (simp only [inR]; omega) | omega | (intros; (repeat' apply And.intro) <;> first | assumption | (simp only [inR]; omega) | omega)) | (intros; (repeat' apply And.intro) <;> first | assumption | (simp only [inR]; omega) | omega | (simp_all; done) | (simp_all [inR]; omega))))
  refine hK2 _ ?_
  clear hK2
  refine W_seq (fun K3 hK3 => ?_)
  refine W_region hT hG [] [4] ?_
  rw [hnt]
  simp only [eq_self, flagB, isPick, Option.all, Option.isSome, sliceAV, Option.toArray, rng1, rng2, rng3, List.zip_nil_right, List.nodup_cons, List.not_mem_nil, not_false_eq_true, List.contains_cons, Nat.reduceBEq, Bool.or_false, Bool.false_and, Bool.and_false, List.isEmpty_nil, List.append_nil, Call.operands, Array.toList_append, List.toList_toArray, imp_self, Bool.cond_false_right, Bool.cond_true_left, opsW, opsD, stepG, stepG0, fzE, nilCmp, nilC, isNilC, nb, stepOp, evA, ofVal, look, Option.map, Option.bind, dstOK, thenQ, keepS_eq, keepL, memb, AState.app, guardP, binAV, opQ, stripV, stripP, pickAV, Op.operands, loadAV, idxAV, lenAV, isStr, FT.avs, FT.size, FT.dflt, applyUps, noH, Nat.reduceEqDiff, if_true, if_false, decide_true, Nat.reduceLT, true_and, and_true, List.nil_append, List.cons_append, Nat.add_zero, Nat.reduceAdd, Bool.false_eq_true, List.getElem?_cons_zero, List.getElem?_cons_succ, List.isEmpty_nil, reduceIte, reduceCtorEq, implies_true, cellsAV, cell1, cleanV, cleanL, cleanO, ownBox, List.contains_nil, List.all_cons, List.all_nil, Bool.and_true, Bool.true_and, List.length_cons, List.length_nil, evL, conv, callOK, boundV, boundL, flatO, renV, renL, List.map_nil, List.map_cons, List.zip_nil_left, List.zip_cons_cons, List.range_zero, List.nodup_nil, Bool.or_true, Bool.true_or, Bool.not_false, Bool.not_true, Bool.false_or, List.isEmpty_cons, Γof, and_self, Nat.lt_add_one, Nat.zero_lt_succ, gt_iff_lt, tyInt, tdInt, tyHull, tdHull, c_spec_PlaceOf]
  repeat (refine And.intro ?_ ?_; focus (first | exact ordP (by kernel_rfl) | with_reducible exact rfl | assumption | trivial | (simp only [inR]; omega) | omega | (intro hh; (try obtain ⟨hh1, hh2⟩ := hh); (repeat' apply And.intro) <;> first | assumption | (simp only [inR]; omega) | omega | (intros; (repeat' apply And.intro) <;> first | assumption | (simp only [inR]; omega) | omega)) | (intros; (repeat' apply And.intro) <;> first | assumption | (simp only [inR]; omega) | omega | (simp_all; done) | (simp_all [inR]; omega))))
  refine hK3 _ ?_
  clear hK3
  refine W_ret ?_
  simp only [thenQ, blockQ, loopQ, retQ, reduceIte, Nat.reduceEqDiff]
  refine ret0 ?_ rfl rfl (.inr rfl) rfl
  simp only [show Try.f119.results.toList = [ResultVar.tmp 4] from rfl, resAV, resL, look, Nat.reduceEqDiff, reduceIte, tyHull, tdHull, applyUps, noH, isStr, List.length_cons, List.length_nil, Nat.reduceAdd, and_self]
  all_goals (
    first | rfl | (simp_all; done))

end Go.Proofs.Ytehhmjnjogckeaa
