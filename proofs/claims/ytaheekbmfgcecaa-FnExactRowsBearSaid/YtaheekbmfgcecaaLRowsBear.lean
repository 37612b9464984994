/- Walk over the law laws.FnExactRowsBear. No condition. -/
import Derived.Test.YtaheekbmfgcecaaRowW
import Derived.Test.YtaheekbmfgcecaaBoxLaw
namespace Go.Proofs.Ytaheekbmfgcecaa
open Go
set_option linter.unusedVariables false
set_option linter.unusedSimpArgs false

def c_laws_FnExactRowsBear : Ctr where
  modes := [.v .p, .v (.r .box), .v (.r .i64), .v .p]
  al := false
  run := fun xs os => match xs, os with
    | [.agg [.int b, .int r, .int t], .rs .box bs, .rs .i64 p, .int m], [] => some ⟨bs.length ≤ 9223372036854775807 ∧ p.length ≤ 9223372036854775807, .bool true, [], []⟩
    | _, _ => none
theorem m_laws_FnExactRowsBear : Meets Try.prog 9 c_laws_FnExactRowsBear := by
  refine meets_of (T := tyT) tyOK Try.func9 (by rfl) rfl (by decide) ?_
  intro args owns R hrun hpre
  simp only [c_laws_FnExactRowsBear] at hrun
  split at hrun
  case h_2 => cases hrun
  rename_i b r t bs p m
  cases hrun
  dsimp only at hpre
  refine ⟨_, rfl, fun E hP hnt hnp => ?_⟩
  replace hnt : E.nt = 53 := hnt
  replace hnp : E.np = 4 := hnp
  have hT : ∀ t d, tyT t = some d → TyOK E.P t d := hP ▸ tyOK
  have hG : ∀ f C, Γof [(15, c_laws_szBoxS), (17, c_laws_toHull), (18, c_laws_toBoxS), (19, c_laws_toIntS), (21, c_laws_eqBoxS), (22, c_laws_eqIntS), (36, c_spec_RowsBear), (37, c_impl_RowsBear)] f = some C → Meets E.P f C := hΓof (by rw [hP]; exact ⟨m_laws_szBoxS, m_laws_toHull, m_laws_toBoxS, m_laws_toIntS, m_laws_eqBoxS, m_laws_eqIntS, m_spec_RowsBear, m_impl_RowsBear, trivial⟩)
  try simp only [show Try.f9.ntmps = 53 from rfl]
  have hbs := hpre.1
  have hp := hpre.2
  have hz : ¬ (if (1048576 : Int) - bs.length < 0 then -1 else 1048576 - (bs.length : Int)) < 0 → bs.length ≤ 1048576 := fun h => by
    split at h <;> omega
  refine W_seq (fun K1 hK1 => ?_)
  refine W_region hT hG [] [1, 2, 3, 4] ?_
  rw [hnt]
  simp only [eq_self, flagB, isPick, Option.all, Option.isSome, sliceAV, Option.toArray, rng1, rng2, rng3, List.zip_nil_right, List.nodup_cons, List.not_mem_nil, not_false_eq_true, List.contains_cons, Nat.reduceBEq, Bool.or_false, Bool.false_and, Bool.and_false, List.isEmpty_nil, List.append_nil, Call.operands, Array.toList_append, List.toList_toArray, imp_self, Bool.cond_false_right, Bool.cond_true_left, opsW, opsD, stepG, stepG0, fzE, nilCmp, nilC, isNilC, nb, stepOp, evA, ofVal, look, Option.map, Option.bind, dstOK, thenQ, keepS_eq, keepL, memb, AState.app, guardP, binAV, opQ, stripV, stripP, pickAV, Op.operands, loadAV, idxAV, lenAV, isStr, FT.avs, FT.size, FT.dflt, applyUps, noH, Nat.reduceEqDiff, if_true, if_false, decide_true, Nat.reduceLT, true_and, and_true, List.nil_append, List.cons_append, Nat.add_zero, Nat.reduceAdd, Bool.false_eq_true, List.getElem?_cons_zero, List.getElem?_cons_succ, List.isEmpty_nil, reduceIte, reduceCtorEq, implies_true, cellsAV, cell1, cleanV, cleanL, cleanO, ownBox, List.contains_nil, List.all_cons, List.all_nil, Bool.and_true, Bool.true_and, List.length_cons, List.length_nil, evL, conv, callOK, boundV, boundL, flatO, renV, renL, List.map_nil, List.map_cons, List.zip_nil_left, List.zip_cons_cons, List.range_zero, List.nodup_nil, Bool.or_true, Bool.true_or, Bool.not_false, Bool.not_true, Bool.false_or, List.isEmpty_cons, Γof, and_self, Nat.lt_add_one, Nat.zero_lt_succ, gt_iff_lt, tyInt, tdInt, tyBool, tdBool, tyLHull, tdLHull, tyLBoxes, tdLBoxes, tyInts, tdInts, tyHull, tdHull, tyBoxes, tdBoxes, c_laws_szBoxS, c_laws_toHull, c_laws_toBoxS, c_laws_toIntS, c_laws_eqBoxS, c_laws_eqIntS, c_spec_RowsBear, c_impl_RowsBear]
  repeat (refine And.intro ?_ ?_; focus (first | exact ordP (by kernel_rfl) | with_reducible exact rfl | trivial | assumption | (simp only [inR]; omega) | omega | (have hz1 := hz (by assumption); omega) | (have hz1 := hz (by assumption); exact ⟨by omega, by omega⟩) | exact ⟨by omega, by omega⟩ | exact ⟨by omega, by omega, by omega⟩))
  refine hK1 _ ?_
  clear hK1
  refine W_seq (fun K2 hK2 => ?_)
  refine W_seq (fun K3 hK3 => ?_)
  refine W_region hT hG [] [1, 2, 3, 4, 16] ?_
  rw [hnt]
  simp only [eq_self, flagB, isPick, Option.all, Option.isSome, sliceAV, Option.toArray, rng1, rng2, rng3, List.zip_nil_right, List.nodup_cons, List.not_mem_nil, not_false_eq_true, List.contains_cons, Nat.reduceBEq, Bool.or_false, Bool.false_and, Bool.and_false, List.isEmpty_nil, List.append_nil, Call.operands, Array.toList_append, List.toList_toArray, imp_self, Bool.cond_false_right, Bool.cond_true_left, opsW, opsD, stepG, stepG0, fzE, nilCmp, nilC, isNilC, nb, stepOp, evA, ofVal, look, Option.map, Option.bind, dstOK, thenQ, keepS_eq, keepL, memb, AState.app, guardP, binAV, opQ, stripV, stripP, pickAV, Op.operands, loadAV, idxAV, lenAV, isStr, FT.avs, FT.size, FT.dflt, applyUps, noH, Nat.reduceEqDiff, if_true, if_false, decide_true, Nat.reduceLT, true_and, and_true, List.nil_append, List.cons_append, Nat.add_zero, Nat.reduceAdd, Bool.false_eq_true, List.getElem?_cons_zero, List.getElem?_cons_succ, List.isEmpty_nil, reduceIte, reduceCtorEq, implies_true, cellsAV, cell1, cleanV, cleanL, cleanO, ownBox, List.contains_nil, List.all_cons, List.all_nil, Bool.and_true, Bool.true_and, List.length_cons, List.length_nil, evL, conv, callOK, boundV, boundL, flatO, renV, renL, List.map_nil, List.map_cons, List.zip_nil_left, List.zip_cons_cons, List.range_zero, List.nodup_nil, Bool.or_true, Bool.true_or, Bool.not_false, Bool.not_true, Bool.false_or, List.isEmpty_cons, Γof, and_self, Nat.lt_add_one, Nat.zero_lt_succ, gt_iff_lt, tyInt, tdInt, tyBool, tdBool, tyLHull, tdLHull, tyLBoxes, tdLBoxes, tyInts, tdInts, tyHull, tdHull, tyBoxes, tdBoxes, c_laws_szBoxS, c_laws_toHull, c_laws_toBoxS, c_laws_toIntS, c_laws_eqBoxS, c_laws_eqIntS, c_spec_RowsBear, c_impl_RowsBear]
  repeat (refine And.intro ?_ ?_; focus (first | exact ordP (by kernel_rfl) | with_reducible exact rfl | trivial | assumption | (simp only [inR]; omega) | omega | (have hz1 := hz (by assumption); omega) | (have hz1 := hz (by assumption); exact ⟨by omega, by omega⟩) | exact ⟨by omega, by omega⟩ | exact ⟨by omega, by omega, by omega⟩))
  refine hK3 _ ?_
  clear hK3
  refine W_cond (b := _) rfl (fun hc4 => ?_) (fun hc4 => ?_)
  · try simp only [decide_eq_true_eq, decide_eq_false_iff_not, ne_eq, Decidable.not_not, Bool.not_eq_true', Bool.not_eq_false', Bool.or_eq_true, Bool.and_eq_true, Bool.or_eq_false_iff, Bool.and_eq_false_iff] at hc4
    refine W_seq (fun K5 hK5 => ?_)
    refine W_region hT hG [] [8] ?_
    rw [hnt]
    simp only [eq_self, flagB, isPick, Option.all, Option.isSome, sliceAV, Option.toArray, rng1, rng2, rng3, List.zip_nil_right, List.nodup_cons, List.not_mem_nil, not_false_eq_true, List.contains_cons, Nat.reduceBEq, Bool.or_false, Bool.false_and, Bool.and_false, List.isEmpty_nil, List.append_nil, Call.operands, Array.toList_append, List.toList_toArray, imp_self, Bool.cond_false_right, Bool.cond_true_left, opsW, opsD, stepG, stepG0, fzE, nilCmp, nilC, isNilC, nb, stepOp, evA, ofVal, look, Option.map, Option.bind, dstOK, thenQ, keepS_eq, keepL, memb, AState.app, guardP, binAV, opQ, stripV, stripP, pickAV, Op.operands, loadAV, idxAV, lenAV, isStr, FT.avs, FT.size, FT.dflt, applyUps, noH, Nat.reduceEqDiff, if_true, if_false, decide_true, Nat.reduceLT, true_and, and_true, List.nil_append, List.cons_append, Nat.add_zero, Nat.reduceAdd, Bool.false_eq_true, List.getElem?_cons_zero, List.getElem?_cons_succ, List.isEmpty_nil, reduceIte, reduceCtorEq, implies_true, cellsAV, cell1, cleanV, cleanL, cleanO, ownBox, List.contains_nil, List.all_cons, List.all_nil, Bool.and_true, Bool.true_and, List.length_cons, List.length_nil, evL, conv, callOK, boundV, boundL, flatO, renV, renL, List.map_nil, List.map_cons, List.zip_nil_left, List.zip_cons_cons, List.range_zero, List.nodup_nil, Bool.or_true, Bool.true_or, Bool.not_false, Bool.not_true, Bool.false_or, List.isEmpty_cons, Γof, and_self, Nat.lt_add_one, Nat.zero_lt_succ, gt_iff_lt, tyInt, tdInt, tyBool, tdBool, tyLHull, tdLHull, tyLBoxes, tdLBoxes, tyInts, tdInts, tyHull, tdHull, tyBoxes, tdBoxes, c_laws_szBoxS, c_laws_toHull, c_laws_toBoxS, c_laws_toIntS, c_laws_eqBoxS, c_laws_eqIntS, c_spec_RowsBear, c_impl_RowsBear]
    repeat (refine And.intro ?_ ?_; focus (first | exact ordP (by kernel_rfl) | with_reducible exact rfl | trivial | assumption | (simp only [inR]; omega) | omega | (have hz1 := hz (by assumption); omega) | (have hz1 := hz (by assumption); exact ⟨by omega, by omega⟩) | exact ⟨by omega, by omega⟩ | exact ⟨by omega, by omega, by omega⟩))
    refine hK5 _ ?_
    clear hK5
    refine W_ret ?_
    simp only [thenQ, blockQ, loopQ, retQ, reduceIte, Nat.reduceEqDiff]
    refine ret0 ?_ rfl rfl (.inr rfl) rfl
    simp only [show Try.f9.results.toList = [ResultVar.tmp 8] from rfl, resAV, resL, look, Nat.reduceEqDiff, reduceIte, tyHull, tdHull, applyUps, noH, isStr, List.length_cons, List.length_nil, Nat.reduceAdd, and_self]
    all_goals (
      first | rfl | (simp_all; done))
  · try simp only [decide_eq_true_eq, decide_eq_false_iff_not, ne_eq, Decidable.not_not, Bool.not_eq_true', Bool.not_eq_false', Bool.or_eq_true, Bool.and_eq_true, Bool.or_eq_false_iff, Bool.and_eq_false_iff] at hc4
    refine W_skip ?_
    simp only [thenQ, blockQ, loopQ, reduceIte, Nat.reduceEqDiff]
    refine hK2 _ ?_
    clear hK2
    refine W_seq (fun K6 hK6 => ?_)
    refine W_region hT hG [] [1, 2, 3, 4, 9] ?_
    rw [hnt]
    simp only [eq_self, flagB, isPick, Option.all, Option.isSome, sliceAV, Option.toArray, rng1, rng2, rng3, List.zip_nil_right, List.nodup_cons, List.not_mem_nil, not_false_eq_true, List.contains_cons, Nat.reduceBEq, Bool.or_false, Bool.false_and, Bool.and_false, List.isEmpty_nil, List.append_nil, Call.operands, Array.toList_append, List.toList_toArray, imp_self, Bool.cond_false_right, Bool.cond_true_left, opsW, opsD, stepG, stepG0, fzE, nilCmp, nilC, isNilC, nb, stepOp, evA, ofVal, look, Option.map, Option.bind, dstOK, thenQ, keepS_eq, keepL, memb, AState.app, guardP, binAV, opQ, stripV, stripP, pickAV, Op.operands, loadAV, idxAV, lenAV, isStr, FT.avs, FT.size, FT.dflt, applyUps, noH, Nat.reduceEqDiff, if_true, if_false, decide_true, Nat.reduceLT, true_and, and_true, List.nil_append, List.cons_append, Nat.add_zero, Nat.reduceAdd, Bool.false_eq_true, List.getElem?_cons_zero, List.getElem?_cons_succ, List.isEmpty_nil, reduceIte, reduceCtorEq, implies_true, cellsAV, cell1, cleanV, cleanL, cleanO, ownBox, List.contains_nil, List.all_cons, List.all_nil, Bool.and_true, Bool.true_and, List.length_cons, List.length_nil, evL, conv, callOK, boundV, boundL, flatO, renV, renL, List.map_nil, List.map_cons, List.zip_nil_left, List.zip_cons_cons, List.range_zero, List.nodup_nil, Bool.or_true, Bool.true_or, Bool.not_false, Bool.not_true, Bool.false_or, List.isEmpty_cons, Γof, and_self, Nat.lt_add_one, Nat.zero_lt_succ, gt_iff_lt, tyInt, tdInt, tyBool, tdBool, tyLHull, tdLHull, tyLBoxes, tdLBoxes, tyInts, tdInts, tyHull, tdHull, tyBoxes, tdBoxes, c_laws_szBoxS, c_laws_toHull, c_laws_toBoxS, c_laws_toIntS, c_laws_eqBoxS, c_laws_eqIntS, c_spec_RowsBear, c_impl_RowsBear]
    repeat (refine And.intro ?_ ?_; focus (first | exact ordP (by kernel_rfl) | with_reducible exact rfl | trivial | assumption | (simp only [inR]; omega) | omega | (have hz1 := hz (by assumption); omega) | (have hz1 := hz (by assumption); exact ⟨by omega, by omega⟩) | exact ⟨by omega, by omega⟩ | exact ⟨by omega, by omega, by omega⟩))
    refine hK6 _ ?_
    clear hK6
    refine W_seq (fun K7 hK7 => ?_)
    refine W_region hT hG [] [1, 2, 3, 4, 9] ?_
    rw [hnt]
    simp only [eq_self, flagB, isPick, Option.all, Option.isSome, sliceAV, Option.toArray, rng1, rng2, rng3, List.zip_nil_right, List.nodup_cons, List.not_mem_nil, not_false_eq_true, List.contains_cons, Nat.reduceBEq, Bool.or_false, Bool.false_and, Bool.and_false, List.isEmpty_nil, List.append_nil, Call.operands, Array.toList_append, List.toList_toArray, imp_self, Bool.cond_false_right, Bool.cond_true_left, opsW, opsD, stepG, stepG0, fzE, nilCmp, nilC, isNilC, nb, stepOp, evA, ofVal, look, Option.map, Option.bind, dstOK, thenQ, keepS_eq, keepL, memb, AState.app, guardP, binAV, opQ, stripV, stripP, pickAV, Op.operands, loadAV, idxAV, lenAV, isStr, FT.avs, FT.size, FT.dflt, applyUps, noH, Nat.reduceEqDiff, if_true, if_false, decide_true, Nat.reduceLT, true_and, and_true, List.nil_append, List.cons_append, Nat.add_zero, Nat.reduceAdd, Bool.false_eq_true, List.getElem?_cons_zero, List.getElem?_cons_succ, List.isEmpty_nil, reduceIte, reduceCtorEq, implies_true, cellsAV, cell1, cleanV, cleanL, cleanO, ownBox, List.contains_nil, List.all_cons, List.all_nil, Bool.and_true, Bool.true_and, List.length_cons, List.length_nil, evL, conv, callOK, boundV, boundL, flatO, renV, renL, List.map_nil, List.map_cons, List.zip_nil_left, List.zip_cons_cons, List.range_zero, List.nodup_nil, Bool.or_true, Bool.true_or, Bool.not_false, Bool.not_true, Bool.false_or, List.isEmpty_cons, Γof, and_self, Nat.lt_add_one, Nat.zero_lt_succ, gt_iff_lt, tyInt, tdInt, tyBool, tdBool, tyLHull, tdLHull, tyLBoxes, tdLBoxes, tyInts, tdInts, tyHull, tdHull, tyBoxes, tdBoxes, c_laws_szBoxS, c_laws_toHull, c_laws_toBoxS, c_laws_toIntS, c_laws_eqBoxS, c_laws_eqIntS, c_spec_RowsBear, c_impl_RowsBear]
    repeat (refine And.intro ?_ ?_; focus (first | exact ordP (by kernel_rfl) | with_reducible exact rfl | trivial | assumption | (simp only [inR]; omega) | omega | (have hz1 := hz (by assumption); omega) | (have hz1 := hz (by assumption); exact ⟨by omega, by omega⟩) | exact ⟨by omega, by omega⟩ | exact ⟨by omega, by omega, by omega⟩))
    refine hK7 _ ?_
    clear hK7
    refine W_seq (fun K8 hK8 => ?_)
    refine W_seq (fun K9 hK9 => ?_)
    refine W_region hT hG [] [1, 2, 3, 4, 21] ?_
    rw [hnt]
    simp only [eq_self, flagB, isPick, Option.all, Option.isSome, sliceAV, Option.toArray, rng1, rng2, rng3, List.zip_nil_right, List.nodup_cons, List.not_mem_nil, not_false_eq_true, List.contains_cons, Nat.reduceBEq, Bool.or_false, Bool.false_and, Bool.and_false, List.isEmpty_nil, List.append_nil, Call.operands, Array.toList_append, List.toList_toArray, imp_self, Bool.cond_false_right, Bool.cond_true_left, opsW, opsD, stepG, stepG0, fzE, nilCmp, nilC, isNilC, nb, stepOp, evA, ofVal, look, Option.map, Option.bind, dstOK, thenQ, keepS_eq, keepL, memb, AState.app, guardP, binAV, opQ, stripV, stripP, pickAV, Op.operands, loadAV, idxAV, lenAV, isStr, FT.avs, FT.size, FT.dflt, applyUps, noH, Nat.reduceEqDiff, if_true, if_false, decide_true, Nat.reduceLT, true_and, and_true, List.nil_append, List.cons_append, Nat.add_zero, Nat.reduceAdd, Bool.false_eq_true, List.getElem?_cons_zero, List.getElem?_cons_succ, List.isEmpty_nil, reduceIte, reduceCtorEq, implies_true, cellsAV, cell1, cleanV, cleanL, cleanO, ownBox, List.contains_nil, List.all_cons, List.all_nil, Bool.and_true, Bool.true_and, List.length_cons, List.length_nil, evL, conv, callOK, boundV, boundL, flatO, renV, renL, List.map_nil, List.map_cons, List.zip_nil_left, List.zip_cons_cons, List.range_zero, List.nodup_nil, Bool.or_true, Bool.true_or, Bool.not_false, Bool.not_true, Bool.false_or, List.isEmpty_cons, Γof, and_self, Nat.lt_add_one, Nat.zero_lt_succ, gt_iff_lt, tyInt, tdInt, tyBool, tdBool, tyLHull, tdLHull, tyLBoxes, tdLBoxes, tyInts, tdInts, tyHull, tdHull, tyBoxes, tdBoxes, c_laws_szBoxS, c_laws_toHull, c_laws_toBoxS, c_laws_toIntS, c_laws_eqBoxS, c_laws_eqIntS, c_spec_RowsBear, c_impl_RowsBear]
    repeat (refine And.intro ?_ ?_; focus (first | exact ordP (by kernel_rfl) | with_reducible exact rfl | trivial | assumption | (simp only [inR]; omega) | omega | (have hz1 := hz (by assumption); omega) | (have hz1 := hz (by assumption); exact ⟨by omega, by omega⟩) | exact ⟨by omega, by omega⟩ | exact ⟨by omega, by omega, by omega⟩))
    refine hK9 _ ?_
    clear hK9
    refine W_cond (b := _) rfl (fun hc10 => ?_) (fun hc10 => ?_)
    · try simp only [decide_eq_true_eq, decide_eq_false_iff_not, ne_eq, Decidable.not_not, Bool.not_eq_true', Bool.not_eq_false', Bool.or_eq_true, Bool.and_eq_true, Bool.or_eq_false_iff, Bool.and_eq_false_iff] at hc10
      refine W_seq (fun K11 hK11 => ?_)
      refine W_region hT hG [] [8] ?_
      rw [hnt]
      simp only [eq_self, flagB, isPick, Option.all, Option.isSome, sliceAV, Option.toArray, rng1, rng2, rng3, List.zip_nil_right, List.nodup_cons, List.not_mem_nil, not_false_eq_true, List.contains_cons, Nat.reduceBEq, Bool.or_false, Bool.false_and, Bool.and_false, List.isEmpty_nil, List.append_nil, Call.operands, Array.toList_append, List.toList_toArray, imp_self, Bool.cond_false_right, Bool.cond_true_left, opsW, opsD, stepG, stepG0, fzE, nilCmp, nilC, isNilC, nb, stepOp, evA, ofVal, look, Option.map, Option.bind, dstOK, thenQ, keepS_eq, keepL, memb, AState.app, guardP, binAV, opQ, stripV, stripP, pickAV, Op.operands, loadAV, idxAV, lenAV, isStr, FT.avs, FT.size, FT.dflt, applyUps, noH, Nat.reduceEqDiff, if_true, if_false, decide_true, Nat.reduceLT, true_and, and_true, List.nil_append, List.cons_append, Nat.add_zero, Nat.reduceAdd, Bool.false_eq_true, List.getElem?_cons_zero, List.getElem?_cons_succ, List.isEmpty_nil, reduceIte, reduceCtorEq, implies_true, cellsAV, cell1, cleanV, cleanL, cleanO, ownBox, List.contains_nil, List.all_cons, List.all_nil, Bool.and_true, Bool.true_and, List.length_cons, List.length_nil, evL, conv, callOK, boundV, boundL, flatO, renV, renL, List.map_nil, List.map_cons, List.zip_nil_left, List.zip_cons_cons, List.range_zero, List.nodup_nil, Bool.or_true, Bool.true_or, Bool.not_false, Bool.not_true, Bool.false_or, List.isEmpty_cons, Γof, and_self, Nat.lt_add_one, Nat.zero_lt_succ, gt_iff_lt, tyInt, tdInt, tyBool, tdBool, tyLHull, tdLHull, tyLBoxes, tdLBoxes, tyInts, tdInts, tyHull, tdHull, tyBoxes, tdBoxes, c_laws_szBoxS, c_laws_toHull, c_laws_toBoxS, c_laws_toIntS, c_laws_eqBoxS, c_laws_eqIntS, c_spec_RowsBear, c_impl_RowsBear]
      repeat (refine And.intro ?_ ?_; focus (first | exact ordP (by kernel_rfl) | with_reducible exact rfl | trivial | assumption | (simp only [inR]; omega) | omega | (have hz1 := hz (by assumption); omega) | (have hz1 := hz (by assumption); exact ⟨by omega, by omega⟩) | exact ⟨by omega, by omega⟩ | exact ⟨by omega, by omega, by omega⟩))
      refine hK11 _ ?_
      clear hK11
      refine W_ret ?_
      simp only [thenQ, blockQ, loopQ, retQ, reduceIte, Nat.reduceEqDiff]
      refine ret0 ?_ rfl rfl (.inr rfl) rfl
      simp only [show Try.f9.results.toList = [ResultVar.tmp 8] from rfl, resAV, resL, look, Nat.reduceEqDiff, reduceIte, tyHull, tdHull, applyUps, noH, isStr, List.length_cons, List.length_nil, Nat.reduceAdd, and_self]
      all_goals (
        first | rfl | (simp_all; done))
    · try simp only [decide_eq_true_eq, decide_eq_false_iff_not, ne_eq, Decidable.not_not, Bool.not_eq_true', Bool.not_eq_false', Bool.or_eq_true, Bool.and_eq_true, Bool.or_eq_false_iff, Bool.and_eq_false_iff] at hc10
      refine W_skip ?_
      simp only [thenQ, blockQ, loopQ, reduceIte, Nat.reduceEqDiff]
      refine hK8 _ ?_
      clear hK8
      refine W_seq (fun K12 hK12 => ?_)
      refine W_region hT hG [] [1, 2, 3, 4, 10] ?_
      rw [hnt]
      simp only [eq_self, flagB, isPick, Option.all, Option.isSome, sliceAV, Option.toArray, rng1, rng2, rng3, List.zip_nil_right, List.nodup_cons, List.not_mem_nil, not_false_eq_true, List.contains_cons, Nat.reduceBEq, Bool.or_false, Bool.false_and, Bool.and_false, List.isEmpty_nil, List.append_nil, Call.operands, Array.toList_append, List.toList_toArray, imp_self, Bool.cond_false_right, Bool.cond_true_left, opsW, opsD, stepG, stepG0, fzE, nilCmp, nilC, isNilC, nb, stepOp, evA, ofVal, look, Option.map, Option.bind, dstOK, thenQ, keepS_eq, keepL, memb, AState.app, guardP, binAV, opQ, stripV, stripP, pickAV, Op.operands, loadAV, idxAV, lenAV, isStr, FT.avs, FT.size, FT.dflt, applyUps, noH, Nat.reduceEqDiff, if_true, if_false, decide_true, Nat.reduceLT, true_and, and_true, List.nil_append, List.cons_append, Nat.add_zero, Nat.reduceAdd, Bool.false_eq_true, List.getElem?_cons_zero, List.getElem?_cons_succ, List.isEmpty_nil, reduceIte, reduceCtorEq, implies_true, cellsAV, cell1, cleanV, cleanL, cleanO, ownBox, List.contains_nil, List.all_cons, List.all_nil, Bool.and_true, Bool.true_and, List.length_cons, List.length_nil, evL, conv, callOK, boundV, boundL, flatO, renV, renL, List.map_nil, List.map_cons, List.zip_nil_left, List.zip_cons_cons, List.range_zero, List.nodup_nil, Bool.or_true, Bool.true_or, Bool.not_false, Bool.not_true, Bool.false_or, List.isEmpty_cons, Γof, and_self, Nat.lt_add_one, Nat.zero_lt_succ, gt_iff_lt, tyInt, tdInt, tyBool, tdBool, tyLHull, tdLHull, tyLBoxes, tdLBoxes, tyInts, tdInts, tyHull, tdHull, tyBoxes, tdBoxes, c_laws_szBoxS, c_laws_toHull, c_laws_toBoxS, c_laws_toIntS, c_laws_eqBoxS, c_laws_eqIntS, c_spec_RowsBear, c_impl_RowsBear]
      repeat (refine And.intro ?_ ?_; focus (first | exact ordP (by kernel_rfl) | with_reducible exact rfl | trivial | assumption | (simp only [inR]; omega) | omega | (have hz1 := hz (by assumption); omega) | (have hz1 := hz (by assumption); exact ⟨by omega, by omega⟩) | exact ⟨by omega, by omega⟩ | exact ⟨by omega, by omega, by omega⟩))
      refine hK12 _ ?_
      clear hK12
      refine W_seq (fun K13 hK13 => ?_)
      refine W_region hT hG [] [1, 2, 3, 4, 10, 11] ?_
      rw [hnt]
      simp only [eq_self, flagB, isPick, Option.all, Option.isSome, sliceAV, Option.toArray, rng1, rng2, rng3, List.zip_nil_right, List.nodup_cons, List.not_mem_nil, not_false_eq_true, List.contains_cons, Nat.reduceBEq, Bool.or_false, Bool.false_and, Bool.and_false, List.isEmpty_nil, List.append_nil, Call.operands, Array.toList_append, List.toList_toArray, imp_self, Bool.cond_false_right, Bool.cond_true_left, opsW, opsD, stepG, stepG0, fzE, nilCmp, nilC, isNilC, nb, stepOp, evA, ofVal, look, Option.map, Option.bind, dstOK, thenQ, keepS_eq, keepL, memb, AState.app, guardP, binAV, opQ, stripV, stripP, pickAV, Op.operands, loadAV, idxAV, lenAV, isStr, FT.avs, FT.size, FT.dflt, applyUps, noH, Nat.reduceEqDiff, if_true, if_false, decide_true, Nat.reduceLT, true_and, and_true, List.nil_append, List.cons_append, Nat.add_zero, Nat.reduceAdd, Bool.false_eq_true, List.getElem?_cons_zero, List.getElem?_cons_succ, List.isEmpty_nil, reduceIte, reduceCtorEq, implies_true, cellsAV, cell1, cleanV, cleanL, cleanO, ownBox, List.contains_nil, List.all_cons, List.all_nil, Bool.and_true, Bool.true_and, List.length_cons, List.length_nil, evL, conv, callOK, boundV, boundL, flatO, renV, renL, List.map_nil, List.map_cons, List.zip_nil_left, List.zip_cons_cons, List.range_zero, List.nodup_nil, Bool.or_true, Bool.true_or, Bool.not_false, Bool.not_true, Bool.false_or, List.isEmpty_cons, Γof, and_self, Nat.lt_add_one, Nat.zero_lt_succ, gt_iff_lt, tyInt, tdInt, tyBool, tdBool, tyLHull, tdLHull, tyLBoxes, tdLBoxes, tyInts, tdInts, tyHull, tdHull, tyBoxes, tdBoxes, c_laws_szBoxS, c_laws_toHull, c_laws_toBoxS, c_laws_toIntS, c_laws_eqBoxS, c_laws_eqIntS, c_spec_RowsBear, c_impl_RowsBear]
      repeat (refine And.intro ?_ ?_; focus (first | exact ordP (by kernel_rfl) | with_reducible exact rfl | trivial | assumption | (simp only [inR]; omega) | omega | (have hz1 := hz (by assumption); omega) | (have hz1 := hz (by assumption); exact ⟨by omega, by omega⟩) | exact ⟨by omega, by omega⟩ | exact ⟨by omega, by omega, by omega⟩))
      refine hK13 _ ?_
      clear hK13
      refine W_seq (fun K14 hK14 => ?_)
      refine W_region hT hG [] [1, 2, 3, 4, 10, 11, 12] ?_
      rw [hnt]
      simp only [eq_self, flagB, isPick, Option.all, Option.isSome, sliceAV, Option.toArray, rng1, rng2, rng3, List.zip_nil_right, List.nodup_cons, List.not_mem_nil, not_false_eq_true, List.contains_cons, Nat.reduceBEq, Bool.or_false, Bool.false_and, Bool.and_false, List.isEmpty_nil, List.append_nil, Call.operands, Array.toList_append, List.toList_toArray, imp_self, Bool.cond_false_right, Bool.cond_true_left, opsW, opsD, stepG, stepG0, fzE, nilCmp, nilC, isNilC, nb, stepOp, evA, ofVal, look, Option.map, Option.bind, dstOK, thenQ, keepS_eq, keepL, memb, AState.app, guardP, binAV, opQ, stripV, stripP, pickAV, Op.operands, loadAV, idxAV, lenAV, isStr, FT.avs, FT.size, FT.dflt, applyUps, noH, Nat.reduceEqDiff, if_true, if_false, decide_true, Nat.reduceLT, true_and, and_true, List.nil_append, List.cons_append, Nat.add_zero, Nat.reduceAdd, Bool.false_eq_true, List.getElem?_cons_zero, List.getElem?_cons_succ, List.isEmpty_nil, reduceIte, reduceCtorEq, implies_true, cellsAV, cell1, cleanV, cleanL, cleanO, ownBox, List.contains_nil, List.all_cons, List.all_nil, Bool.and_true, Bool.true_and, List.length_cons, List.length_nil, evL, conv, callOK, boundV, boundL, flatO, renV, renL, List.map_nil, List.map_cons, List.zip_nil_left, List.zip_cons_cons, List.range_zero, List.nodup_nil, Bool.or_true, Bool.true_or, Bool.not_false, Bool.not_true, Bool.false_or, List.isEmpty_cons, Γof, and_self, Nat.lt_add_one, Nat.zero_lt_succ, gt_iff_lt, tyInt, tdInt, tyBool, tdBool, tyLHull, tdLHull, tyLBoxes, tdLBoxes, tyInts, tdInts, tyHull, tdHull, tyBoxes, tdBoxes, c_laws_szBoxS, c_laws_toHull, c_laws_toBoxS, c_laws_toIntS, c_laws_eqBoxS, c_laws_eqIntS, c_spec_RowsBear, c_impl_RowsBear]
      repeat (refine And.intro ?_ ?_; focus (first | exact ordP (by kernel_rfl) | with_reducible exact rfl | trivial | assumption | (simp only [inR]; omega) | omega | (have hz1 := hz (by assumption); omega) | (have hz1 := hz (by assumption); exact ⟨by omega, by omega⟩) | exact ⟨by omega, by omega⟩ | exact ⟨by omega, by omega, by omega⟩))
      refine hK14 _ ?_
      clear hK14
      refine W_seq (fun K15 hK15 => ?_)
      refine W_region hT hG [] [1, 2, 10, 11, 12, 13] ?_
      rw [hnt]
      simp only [eq_self, flagB, isPick, Option.all, Option.isSome, sliceAV, Option.toArray, rng1, rng2, rng3, List.zip_nil_right, List.nodup_cons, List.not_mem_nil, not_false_eq_true, List.contains_cons, Nat.reduceBEq, Bool.or_false, Bool.false_and, Bool.and_false, List.isEmpty_nil, List.append_nil, Call.operands, Array.toList_append, List.toList_toArray, imp_self, Bool.cond_false_right, Bool.cond_true_left, opsW, opsD, stepG, stepG0, fzE, nilCmp, nilC, isNilC, nb, stepOp, evA, ofVal, look, Option.map, Option.bind, dstOK, thenQ, keepS_eq, keepL, memb, AState.app, guardP, binAV, opQ, stripV, stripP, pickAV, Op.operands, loadAV, idxAV, lenAV, isStr, FT.avs, FT.size, FT.dflt, applyUps, noH, Nat.reduceEqDiff, if_true, if_false, decide_true, Nat.reduceLT, true_and, and_true, List.nil_append, List.cons_append, Nat.add_zero, Nat.reduceAdd, Bool.false_eq_true, List.getElem?_cons_zero, List.getElem?_cons_succ, List.isEmpty_nil, reduceIte, reduceCtorEq, implies_true, cellsAV, cell1, cleanV, cleanL, cleanO, ownBox, List.contains_nil, List.all_cons, List.all_nil, Bool.and_true, Bool.true_and, List.length_cons, List.length_nil, evL, conv, callOK, boundV, boundL, flatO, renV, renL, List.map_nil, List.map_cons, List.zip_nil_left, List.zip_cons_cons, List.range_zero, List.nodup_nil, Bool.or_true, Bool.true_or, Bool.not_false, Bool.not_true, Bool.false_or, List.isEmpty_cons, Γof, and_self, Nat.lt_add_one, Nat.zero_lt_succ, gt_iff_lt, tyInt, tdInt, tyBool, tdBool, tyLHull, tdLHull, tyLBoxes, tdLBoxes, tyInts, tdInts, tyHull, tdHull, tyBoxes, tdBoxes, c_laws_szBoxS, c_laws_toHull, c_laws_toBoxS, c_laws_toIntS, c_laws_eqBoxS, c_laws_eqIntS, c_spec_RowsBear, c_impl_RowsBear]
      repeat (refine And.intro ?_ ?_; focus (first | exact ordP (by kernel_rfl) | with_reducible exact rfl | trivial | assumption | (simp only [inR]; omega) | omega | (have hz1 := hz (by assumption); omega) | (have hz1 := hz (by assumption); exact ⟨by omega, by omega⟩) | exact ⟨by omega, by omega⟩ | exact ⟨by omega, by omega, by omega⟩))
      refine hK15 _ ?_
      clear hK15
      refine W_seq (fun K16 hK16 => ?_)
      refine W_seq (fun K17 hK17 => ?_)
      refine W_region hT hG [] [1, 2, 11, 12, 42] ?_
      rw [hnt]
      simp only [eq_self, flagB, isPick, Option.all, Option.isSome, sliceAV, Option.toArray, rng1, rng2, rng3, List.zip_nil_right, List.nodup_cons, List.not_mem_nil, not_false_eq_true, List.contains_cons, Nat.reduceBEq, Bool.or_false, Bool.false_and, Bool.and_false, List.isEmpty_nil, List.append_nil, Call.operands, Array.toList_append, List.toList_toArray, imp_self, Bool.cond_false_right, Bool.cond_true_left, opsW, opsD, stepG, stepG0, fzE, nilCmp, nilC, isNilC, nb, stepOp, evA, ofVal, look, Option.map, Option.bind, dstOK, thenQ, keepS_eq, keepL, memb, AState.app, guardP, binAV, opQ, stripV, stripP, pickAV, Op.operands, loadAV, idxAV, lenAV, isStr, FT.avs, FT.size, FT.dflt, applyUps, noH, Nat.reduceEqDiff, if_true, if_false, decide_true, Nat.reduceLT, true_and, and_true, List.nil_append, List.cons_append, Nat.add_zero, Nat.reduceAdd, Bool.false_eq_true, List.getElem?_cons_zero, List.getElem?_cons_succ, List.isEmpty_nil, reduceIte, reduceCtorEq, implies_true, cellsAV, cell1, cleanV, cleanL, cleanO, ownBox, List.contains_nil, List.all_cons, List.all_nil, Bool.and_true, Bool.true_and, List.length_cons, List.length_nil, evL, conv, callOK, boundV, boundL, flatO, renV, renL, List.map_nil, List.map_cons, List.zip_nil_left, List.zip_cons_cons, List.range_zero, List.nodup_nil, Bool.or_true, Bool.true_or, Bool.not_false, Bool.not_true, Bool.false_or, List.isEmpty_cons, Γof, and_self, Nat.lt_add_one, Nat.zero_lt_succ, gt_iff_lt, tyInt, tdInt, tyBool, tdBool, tyLHull, tdLHull, tyLBoxes, tdLBoxes, tyInts, tdInts, tyHull, tdHull, tyBoxes, tdBoxes, c_laws_szBoxS, c_laws_toHull, c_laws_toBoxS, c_laws_toIntS, c_laws_eqBoxS, c_laws_eqIntS, c_spec_RowsBear, c_impl_RowsBear]
      repeat (refine And.intro ?_ ?_; focus (first | exact ordP (by kernel_rfl) | with_reducible exact rfl | trivial | assumption | (simp only [inR]; omega) | omega | (have hz1 := hz (by assumption); omega) | (have hz1 := hz (by assumption); exact ⟨by omega, by omega⟩) | exact ⟨by omega, by omega⟩ | exact ⟨by omega, by omega, by omega⟩))
      refine hK17 _ ?_
      clear hK17
      refine W_cond (b := _) rfl (fun hc18 => ?_) (fun hc18 => ?_)
      · try simp only [decide_eq_true_eq, decide_eq_false_iff_not, ne_eq, Decidable.not_not, Bool.not_eq_true', Bool.not_eq_false', Bool.or_eq_true, Bool.and_eq_true, Bool.or_eq_false_iff, Bool.and_eq_false_iff] at hc18
        refine W_seq (fun K19 hK19 => ?_)
        refine W_region hT hG [] [8] ?_
        rw [hnt]
        simp only [eq_self, flagB, isPick, Option.all, Option.isSome, sliceAV, Option.toArray, rng1, rng2, rng3, List.zip_nil_right, List.nodup_cons, List.not_mem_nil, not_false_eq_true, List.contains_cons, Nat.reduceBEq, Bool.or_false, Bool.false_and, Bool.and_false, List.isEmpty_nil, List.append_nil, Call.operands, Array.toList_append, List.toList_toArray, imp_self, Bool.cond_false_right, Bool.cond_true_left, opsW, opsD, stepG, stepG0, fzE, nilCmp, nilC, isNilC, nb, stepOp, evA, ofVal, look, Option.map, Option.bind, dstOK, thenQ, keepS_eq, keepL, memb, AState.app, guardP, binAV, opQ, stripV, stripP, pickAV, Op.operands, loadAV, idxAV, lenAV, isStr, FT.avs, FT.size, FT.dflt, applyUps, noH, Nat.reduceEqDiff, if_true, if_false, decide_true, Nat.reduceLT, true_and, and_true, List.nil_append, List.cons_append, Nat.add_zero, Nat.reduceAdd, Bool.false_eq_true, List.getElem?_cons_zero, List.getElem?_cons_succ, List.isEmpty_nil, reduceIte, reduceCtorEq, implies_true, cellsAV, cell1, cleanV, cleanL, cleanO, ownBox, List.contains_nil, List.all_cons, List.all_nil, Bool.and_true, Bool.true_and, List.length_cons, List.length_nil, evL, conv, callOK, boundV, boundL, flatO, renV, renL, List.map_nil, List.map_cons, List.zip_nil_left, List.zip_cons_cons, List.range_zero, List.nodup_nil, Bool.or_true, Bool.true_or, Bool.not_false, Bool.not_true, Bool.false_or, List.isEmpty_cons, Γof, and_self, Nat.lt_add_one, Nat.zero_lt_succ, gt_iff_lt, tyInt, tdInt, tyBool, tdBool, tyLHull, tdLHull, tyLBoxes, tdLBoxes, tyInts, tdInts, tyHull, tdHull, tyBoxes, tdBoxes, c_laws_szBoxS, c_laws_toHull, c_laws_toBoxS, c_laws_toIntS, c_laws_eqBoxS, c_laws_eqIntS, c_spec_RowsBear, c_impl_RowsBear]
        repeat (refine And.intro ?_ ?_; focus (first | exact ordP (by kernel_rfl) | with_reducible exact rfl | trivial | assumption | (simp only [inR]; omega) | omega | (have hz1 := hz (by assumption); omega) | (have hz1 := hz (by assumption); exact ⟨by omega, by omega⟩) | exact ⟨by omega, by omega⟩ | exact ⟨by omega, by omega, by omega⟩))
        refine hK19 _ ?_
        clear hK19
        refine W_ret ?_
        simp only [thenQ, blockQ, loopQ, retQ, reduceIte, Nat.reduceEqDiff]
        refine ret0 ?_ rfl rfl (.inr rfl) rfl
        simp only [show Try.f9.results.toList = [ResultVar.tmp 8] from rfl, resAV, resL, look, Nat.reduceEqDiff, reduceIte, tyHull, tdHull, applyUps, noH, isStr, List.length_cons, List.length_nil, Nat.reduceAdd, and_self]
        all_goals (
          first | rfl | (simp_all; done))
      · try simp only [decide_eq_true_eq, decide_eq_false_iff_not, ne_eq, Decidable.not_not, Bool.not_eq_true', Bool.not_eq_false', Bool.or_eq_true, Bool.and_eq_true, Bool.or_eq_false_iff, Bool.and_eq_false_iff] at hc18
        refine W_skip ?_
        simp only [thenQ, blockQ, loopQ, reduceIte, Nat.reduceEqDiff]
        refine hK16 _ ?_
        clear hK16
        refine W_seq (fun K20 hK20 => ?_)
        refine W_seq (fun K21 hK21 => ?_)
        refine W_region hT hG [] [2, 12, 47] ?_
        rw [hnt]
        simp only [eq_self, flagB, isPick, Option.all, Option.isSome, sliceAV, Option.toArray, rng1, rng2, rng3, List.zip_nil_right, List.nodup_cons, List.not_mem_nil, not_false_eq_true, List.contains_cons, Nat.reduceBEq, Bool.or_false, Bool.false_and, Bool.and_false, List.isEmpty_nil, List.append_nil, Call.operands, Array.toList_append, List.toList_toArray, imp_self, Bool.cond_false_right, Bool.cond_true_left, opsW, opsD, stepG, stepG0, fzE, nilCmp, nilC, isNilC, nb, stepOp, evA, ofVal, look, Option.map, Option.bind, dstOK, thenQ, keepS_eq, keepL, memb, AState.app, guardP, binAV, opQ, stripV, stripP, pickAV, Op.operands, loadAV, idxAV, lenAV, isStr, FT.avs, FT.size, FT.dflt, applyUps, noH, Nat.reduceEqDiff, if_true, if_false, decide_true, Nat.reduceLT, true_and, and_true, List.nil_append, List.cons_append, Nat.add_zero, Nat.reduceAdd, Bool.false_eq_true, List.getElem?_cons_zero, List.getElem?_cons_succ, List.isEmpty_nil, reduceIte, reduceCtorEq, implies_true, cellsAV, cell1, cleanV, cleanL, cleanO, ownBox, List.contains_nil, List.all_cons, List.all_nil, Bool.and_true, Bool.true_and, List.length_cons, List.length_nil, evL, conv, callOK, boundV, boundL, flatO, renV, renL, List.map_nil, List.map_cons, List.zip_nil_left, List.zip_cons_cons, List.range_zero, List.nodup_nil, Bool.or_true, Bool.true_or, Bool.not_false, Bool.not_true, Bool.false_or, List.isEmpty_cons, Γof, and_self, Nat.lt_add_one, Nat.zero_lt_succ, gt_iff_lt, tyInt, tdInt, tyBool, tdBool, tyLHull, tdLHull, tyLBoxes, tdLBoxes, tyInts, tdInts, tyHull, tdHull, tyBoxes, tdBoxes, c_laws_szBoxS, c_laws_toHull, c_laws_toBoxS, c_laws_toIntS, c_laws_eqBoxS, c_laws_eqIntS, c_spec_RowsBear, c_impl_RowsBear]
        repeat (refine And.intro ?_ ?_; focus (first | exact ordP (by kernel_rfl) | with_reducible exact rfl | trivial | assumption | (simp only [inR]; omega) | omega | (have hz1 := hz (by assumption); omega) | (have hz1 := hz (by assumption); exact ⟨by omega, by omega⟩) | exact ⟨by omega, by omega⟩ | exact ⟨by omega, by omega, by omega⟩))
        refine hK21 _ ?_
        clear hK21
        refine W_cond (b := _) rfl (fun hc22 => ?_) (fun hc22 => ?_)
        · try simp only [decide_eq_true_eq, decide_eq_false_iff_not, ne_eq, Decidable.not_not, Bool.not_eq_true', Bool.not_eq_false', Bool.or_eq_true, Bool.and_eq_true, Bool.or_eq_false_iff, Bool.and_eq_false_iff] at hc22
          refine W_seq (fun K23 hK23 => ?_)
          refine W_region hT hG [] [8] ?_
          rw [hnt]
          simp only [eq_self, flagB, isPick, Option.all, Option.isSome, sliceAV, Option.toArray, rng1, rng2, rng3, List.zip_nil_right, List.nodup_cons, List.not_mem_nil, not_false_eq_true, List.contains_cons, Nat.reduceBEq, Bool.or_false, Bool.false_and, Bool.and_false, List.isEmpty_nil, List.append_nil, Call.operands, Array.toList_append, List.toList_toArray, imp_self, Bool.cond_false_right, Bool.cond_true_left, opsW, opsD, stepG, stepG0, fzE, nilCmp, nilC, isNilC, nb, stepOp, evA, ofVal, look, Option.map, Option.bind, dstOK, thenQ, keepS_eq, keepL, memb, AState.app, guardP, binAV, opQ, stripV, stripP, pickAV, Op.operands, loadAV, idxAV, lenAV, isStr, FT.avs, FT.size, FT.dflt, applyUps, noH, Nat.reduceEqDiff, if_true, if_false, decide_true, Nat.reduceLT, true_and, and_true, List.nil_append, List.cons_append, Nat.add_zero, Nat.reduceAdd, Bool.false_eq_true, List.getElem?_cons_zero, List.getElem?_cons_succ, List.isEmpty_nil, reduceIte, reduceCtorEq, implies_true, cellsAV, cell1, cleanV, cleanL, cleanO, ownBox, List.contains_nil, List.all_cons, List.all_nil, Bool.and_true, Bool.true_and, List.length_cons, List.length_nil, evL, conv, callOK, boundV, boundL, flatO, renV, renL, List.map_nil, List.map_cons, List.zip_nil_left, List.zip_cons_cons, List.range_zero, List.nodup_nil, Bool.or_true, Bool.true_or, Bool.not_false, Bool.not_true, Bool.false_or, List.isEmpty_cons, Γof, and_self, Nat.lt_add_one, Nat.zero_lt_succ, gt_iff_lt, tyInt, tdInt, tyBool, tdBool, tyLHull, tdLHull, tyLBoxes, tdLBoxes, tyInts, tdInts, tyHull, tdHull, tyBoxes, tdBoxes, c_laws_szBoxS, c_laws_toHull, c_laws_toBoxS, c_laws_toIntS, c_laws_eqBoxS, c_laws_eqIntS, c_spec_RowsBear, c_impl_RowsBear]
          repeat (refine And.intro ?_ ?_; focus (first | exact ordP (by kernel_rfl) | with_reducible exact rfl | trivial | assumption | (simp only [inR]; omega) | omega | (have hz1 := hz (by assumption); omega) | (have hz1 := hz (by assumption); exact ⟨by omega, by omega⟩) | exact ⟨by omega, by omega⟩ | exact ⟨by omega, by omega, by omega⟩))
          refine hK23 _ ?_
          clear hK23
          refine W_ret ?_
          simp only [thenQ, blockQ, loopQ, retQ, reduceIte, Nat.reduceEqDiff]
          refine ret0 ?_ rfl rfl (.inr rfl) rfl
          simp only [show Try.f9.results.toList = [ResultVar.tmp 8] from rfl, resAV, resL, look, Nat.reduceEqDiff, reduceIte, tyHull, tdHull, applyUps, noH, isStr, List.length_cons, List.length_nil, Nat.reduceAdd, and_self]
          all_goals (
            first | rfl | (simp_all; done))
        · try simp only [decide_eq_true_eq, decide_eq_false_iff_not, ne_eq, Decidable.not_not, Bool.not_eq_true', Bool.not_eq_false', Bool.or_eq_true, Bool.and_eq_true, Bool.or_eq_false_iff, Bool.and_eq_false_iff] at hc22
          refine W_skip ?_
          simp only [thenQ, blockQ, loopQ, reduceIte, Nat.reduceEqDiff]
          refine hK20 _ ?_
          clear hK20
          refine W_seq (fun K24 hK24 => ?_)
          refine W_seq (fun K25 hK25 => ?_)
          refine W_region hT hG [] [52] ?_
          rw [hnt]
          simp only [eq_self, flagB, isPick, Option.all, Option.isSome, sliceAV, Option.toArray, rng1, rng2, rng3, List.zip_nil_right, List.nodup_cons, List.not_mem_nil, not_false_eq_true, List.contains_cons, Nat.reduceBEq, Bool.or_false, Bool.false_and, Bool.and_false, List.isEmpty_nil, List.append_nil, Call.operands, Array.toList_append, List.toList_toArray, imp_self, Bool.cond_false_right, Bool.cond_true_left, opsW, opsD, stepG, stepG0, fzE, nilCmp, nilC, isNilC, nb, stepOp, evA, ofVal, look, Option.map, Option.bind, dstOK, thenQ, keepS_eq, keepL, memb, AState.app, guardP, binAV, opQ, stripV, stripP, pickAV, Op.operands, loadAV, idxAV, lenAV, isStr, FT.avs, FT.size, FT.dflt, applyUps, noH, Nat.reduceEqDiff, if_true, if_false, decide_true, Nat.reduceLT, true_and, and_true, List.nil_append, List.cons_append, Nat.add_zero, Nat.reduceAdd, Bool.false_eq_true, List.getElem?_cons_zero, List.getElem?_cons_succ, List.isEmpty_nil, reduceIte, reduceCtorEq, implies_true, cellsAV, cell1, cleanV, cleanL, cleanO, ownBox, List.contains_nil, List.all_cons, List.all_nil, Bool.and_true, Bool.true_and, List.length_cons, List.length_nil, evL, conv, callOK, boundV, boundL, flatO, renV, renL, List.map_nil, List.map_cons, List.zip_nil_left, List.zip_cons_cons, List.range_zero, List.nodup_nil, Bool.or_true, Bool.true_or, Bool.not_false, Bool.not_true, Bool.false_or, List.isEmpty_cons, Γof, and_self, Nat.lt_add_one, Nat.zero_lt_succ, gt_iff_lt, tyInt, tdInt, tyBool, tdBool, tyLHull, tdLHull, tyLBoxes, tdLBoxes, tyInts, tdInts, tyHull, tdHull, tyBoxes, tdBoxes, c_laws_szBoxS, c_laws_toHull, c_laws_toBoxS, c_laws_toIntS, c_laws_eqBoxS, c_laws_eqIntS, c_spec_RowsBear, c_impl_RowsBear]
          repeat (refine And.intro ?_ ?_; focus (first | exact ordP (by kernel_rfl) | with_reducible exact rfl | trivial | assumption | (simp only [inR]; omega) | omega | (have hz1 := hz (by assumption); omega) | (have hz1 := hz (by assumption); exact ⟨by omega, by omega⟩) | exact ⟨by omega, by omega⟩ | exact ⟨by omega, by omega, by omega⟩))
          refine hK25 _ ?_
          clear hK25
          refine W_cond (b := _) rfl (fun hc26 => ?_) (fun hc26 => ?_)
          · try simp only [decide_eq_true_eq, decide_eq_false_iff_not, ne_eq, Decidable.not_not, Bool.not_eq_true', Bool.not_eq_false', Bool.or_eq_true, Bool.and_eq_true, Bool.or_eq_false_iff, Bool.and_eq_false_iff] at hc26
            refine W_seq (fun K27 hK27 => ?_)
            refine W_region hT hG [] [8] ?_
            rw [hnt]
            simp only [eq_self, flagB, isPick, Option.all, Option.isSome, sliceAV, Option.toArray, rng1, rng2, rng3, List.zip_nil_right, List.nodup_cons, List.not_mem_nil, not_false_eq_true, List.contains_cons, Nat.reduceBEq, Bool.or_false, Bool.false_and, Bool.and_false, List.isEmpty_nil, List.append_nil, Call.operands, Array.toList_append, List.toList_toArray, imp_self, Bool.cond_false_right, Bool.cond_true_left, opsW, opsD, stepG, stepG0, fzE, nilCmp, nilC, isNilC, nb, stepOp, evA, ofVal, look, Option.map, Option.bind, dstOK, thenQ, keepS_eq, keepL, memb, AState.app, guardP, binAV, opQ, stripV, stripP, pickAV, Op.operands, loadAV, idxAV, lenAV, isStr, FT.avs, FT.size, FT.dflt, applyUps, noH, Nat.reduceEqDiff, if_true, if_false, decide_true, Nat.reduceLT, true_and, and_true, List.nil_append, List.cons_append, Nat.add_zero, Nat.reduceAdd, Bool.false_eq_true, List.getElem?_cons_zero, List.getElem?_cons_succ, List.isEmpty_nil, reduceIte, reduceCtorEq, implies_true, cellsAV, cell1, cleanV, cleanL, cleanO, ownBox, List.contains_nil, List.all_cons, List.all_nil, Bool.and_true, Bool.true_and, List.length_cons, List.length_nil, evL, conv, callOK, boundV, boundL, flatO, renV, renL, List.map_nil, List.map_cons, List.zip_nil_left, List.zip_cons_cons, List.range_zero, List.nodup_nil, Bool.or_true, Bool.true_or, Bool.not_false, Bool.not_true, Bool.false_or, List.isEmpty_cons, Γof, and_self, Nat.lt_add_one, Nat.zero_lt_succ, gt_iff_lt, tyInt, tdInt, tyBool, tdBool, tyLHull, tdLHull, tyLBoxes, tdLBoxes, tyInts, tdInts, tyHull, tdHull, tyBoxes, tdBoxes, c_laws_szBoxS, c_laws_toHull, c_laws_toBoxS, c_laws_toIntS, c_laws_eqBoxS, c_laws_eqIntS, c_spec_RowsBear, c_impl_RowsBear]
            repeat (refine And.intro ?_ ?_; focus (first | exact ordP (by kernel_rfl) | with_reducible exact rfl | trivial | assumption | (simp only [inR]; omega) | omega | (have hz1 := hz (by assumption); omega) | (have hz1 := hz (by assumption); exact ⟨by omega, by omega⟩) | exact ⟨by omega, by omega⟩ | exact ⟨by omega, by omega, by omega⟩))
            refine hK27 _ ?_
            clear hK27
            refine W_ret ?_
            simp only [thenQ, blockQ, loopQ, retQ, reduceIte, Nat.reduceEqDiff]
            refine ret0 ?_ rfl rfl (.inr rfl) rfl
            simp only [show Try.f9.results.toList = [ResultVar.tmp 8] from rfl, resAV, resL, look, Nat.reduceEqDiff, reduceIte, tyHull, tdHull, applyUps, noH, isStr, List.length_cons, List.length_nil, Nat.reduceAdd, and_self]
            all_goals (
              first | rfl | (simp_all; done))
          · try simp only [decide_eq_true_eq, decide_eq_false_iff_not, ne_eq, Decidable.not_not, Bool.not_eq_true', Bool.not_eq_false', Bool.or_eq_true, Bool.and_eq_true, Bool.or_eq_false_iff, Bool.and_eq_false_iff] at hc26
            refine W_skip ?_
            simp only [thenQ, blockQ, loopQ, reduceIte, Nat.reduceEqDiff]
            refine hK24 _ ?_
            clear hK24
            refine W_seq (fun K28 hK28 => ?_)
            refine W_region hT hG [] [8] ?_
            rw [hnt]
            simp only [eq_self, flagB, isPick, Option.all, Option.isSome, sliceAV, Option.toArray, rng1, rng2, rng3, List.zip_nil_right, List.nodup_cons, List.not_mem_nil, not_false_eq_true, List.contains_cons, Nat.reduceBEq, Bool.or_false, Bool.false_and, Bool.and_false, List.isEmpty_nil, List.append_nil, Call.operands, Array.toList_append, List.toList_toArray, imp_self, Bool.cond_false_right, Bool.cond_true_left, opsW, opsD, stepG, stepG0, fzE, nilCmp, nilC, isNilC, nb, stepOp, evA, ofVal, look, Option.map, Option.bind, dstOK, thenQ, keepS_eq, keepL, memb, AState.app, guardP, binAV, opQ, stripV, stripP, pickAV, Op.operands, loadAV, idxAV, lenAV, isStr, FT.avs, FT.size, FT.dflt, applyUps, noH, Nat.reduceEqDiff, if_true, if_false, decide_true, Nat.reduceLT, true_and, and_true, List.nil_append, List.cons_append, Nat.add_zero, Nat.reduceAdd, Bool.false_eq_true, List.getElem?_cons_zero, List.getElem?_cons_succ, List.isEmpty_nil, reduceIte, reduceCtorEq, implies_true, cellsAV, cell1, cleanV, cleanL, cleanO, ownBox, List.contains_nil, List.all_cons, List.all_nil, Bool.and_true, Bool.true_and, List.length_cons, List.length_nil, evL, conv, callOK, boundV, boundL, flatO, renV, renL, List.map_nil, List.map_cons, List.zip_nil_left, List.zip_cons_cons, List.range_zero, List.nodup_nil, Bool.or_true, Bool.true_or, Bool.not_false, Bool.not_true, Bool.false_or, List.isEmpty_cons, Γof, and_self, Nat.lt_add_one, Nat.zero_lt_succ, gt_iff_lt, tyInt, tdInt, tyBool, tdBool, tyLHull, tdLHull, tyLBoxes, tdLBoxes, tyInts, tdInts, tyHull, tdHull, tyBoxes, tdBoxes, c_laws_szBoxS, c_laws_toHull, c_laws_toBoxS, c_laws_toIntS, c_laws_eqBoxS, c_laws_eqIntS, c_spec_RowsBear, c_impl_RowsBear]
            repeat (refine And.intro ?_ ?_; focus (first | exact ordP (by kernel_rfl) | with_reducible exact rfl | trivial | assumption | (simp only [inR]; omega) | omega | (have hz1 := hz (by assumption); omega) | (have hz1 := hz (by assumption); exact ⟨by omega, by omega⟩) | exact ⟨by omega, by omega⟩ | exact ⟨by omega, by omega, by omega⟩))
            refine hK28 _ ?_
            clear hK28
            refine W_ret ?_
            simp only [thenQ, blockQ, loopQ, retQ, reduceIte, Nat.reduceEqDiff]
            refine ret0 ?_ rfl rfl (.inr rfl) rfl
            simp only [show Try.f9.results.toList = [ResultVar.tmp 8] from rfl, resAV, resL, look, Nat.reduceEqDiff, reduceIte, tyHull, tdHull, applyUps, noH, isStr, List.length_cons, List.length_nil, Nat.reduceAdd, and_self]
            all_goals (
              first | rfl | (simp_all; done))

end Go.Proofs.Ytaheekbmfgcecaa
