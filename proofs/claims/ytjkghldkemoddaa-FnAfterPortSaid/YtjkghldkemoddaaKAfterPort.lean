/- Walk over the law laws.FnAfterPort. No condition. -/
import Derived.Test.YtjkghldkemoddaaDrawS
import Derived.Test.YtjkghldkemoddaaAfterP
import Derived.Test.YtjkghldkemoddaaPMoves
import Derived.Test.YtjkghldkemoddaaFind
import Derived.Test.YtjkghldkemoddaaAftF
import Derived.Test.YtjkghldkemoddaaAlive
import Derived.Test.YtjkghldkemoddaaTopU
namespace Go.Proofs.Ytjkghldkemoddaa
open Go
set_option linter.unusedVariables false
set_option linter.unusedSimpArgs false

def c_laws_FnAfterPort : Ctr where
  modes := [.v (.r .u8)]
  al := false
  run := fun xs os => match xs, os with
    | [.rs .u8 b], [] => some ⟨b.length ≤ 9223372036854775807 ∧ ∀ x ∈ b, 0 ≤ x ∧ x ≤ 255, .bool true, [], []⟩
    | _, _ => none
theorem m_laws_FnAfterPort : Meets Try.prog 9 c_laws_FnAfterPort := by
  refine meets_of (T := tyT) tyOK Try.func9 (by rfl) rfl (by decide) ?_
  intro args owns R hrun hpre
  simp only [c_laws_FnAfterPort] at hrun
  split at hrun
  case h_2 => cases hrun
  rename_i b
  cases hrun
  try dsimp only at hpre
  refine ⟨_, rfl, fun E hP hnt hnp => ?_⟩
  replace hnt : E.nt = 112 := hnt
  replace hnp : E.np = 1 := hnp
  have hT : ∀ t d, tyT t = some d → TyOK E.P t d := hP ▸ tyOK
  have hG : ∀ f C, Γof [(18, c_laws_alive), (32, c_laws_sameInts), (40, c_impl_PortMoves), (43, c_laws_portOf), (46, c_spec_DrawAfterPort), (47, c_impl_AfterPort), (48, c_spec_AfterPort), (49, c_impl_PlanFind), (50, c_impl_PlaceOf), (51, c_impl_PlanValid)] f = some C → Meets E.P f C := hΓof (by rw [hP]; exact ⟨m_laws_alive, m_laws_sameInts, m_impl_PortMoves, m_laws_portOf, m_spec_DrawAfterPort, m_impl_AfterPort, m_spec_AfterPort, m_impl_PlanFind, m_impl_PlaceOf, m_impl_PlanValid, trivial⟩)
  try simp only [show Try.f9.ntmps = 112 from rfl]
  refine W_seq (fun K1 hK1 => ?_)
  refine W_region hT hG [100104, 100105, 100106, 100107, 100108, 100109, 100110] [0] ?_
  rw [hnt]
  simp only [baseS, eq_self, implies_true, if_true, if_false, reduceIte, Nat.reduceBEq, Nat.reduceEqDiff, Nat.reduceLT, Nat.reduceAdd, reduceCtorEq, relC, callOK0, callOK1, fzE, c_spec_DrawAfterPortR, tyInt, tdInt, tyBool, tdBool, tyBytes, tdBytes, tyHull, tdHull, tyBoxes, tdBoxes, tyInts, tdInts, c_laws_alive, c_laws_sameInts, c_impl_PortMoves, c_laws_portOf, c_spec_DrawAfterPort, c_impl_AfterPort, c_spec_AfterPort, c_impl_PlanFind, c_impl_PlaceOf, c_impl_PlanValid, decide_false, room, Nat.reduceLeDiff, Nat.zero_le, storeAV, rowQ, ownInts, FT.of, FT.setf, elems, appAV_I, appI, srcI, ownI, anyI, sameR, appAV_P, appP, srcP, ownP, anyP, rowsAV, appAV, srcRows, srcFlat, reduceDIte, List.length_append, setAll, Option.isSome_some, List.drop_zero, Int.reduceToNat, List.set_cons_zero, List.set_cons_succ, Int.toNat_natCast]
  repeat (refine And.intro ?_ ?_; focus (first | exact hpre.2 | (simp only [List.length_drop]; omega) | exact hb1 | exact hb2 | first | exact ordP (by kernel_rfl) | with_reducible exact rfl | assumption | trivial | (simp only [inR]; omega) | omega | exact ⟨by omega, by omega⟩ | exact ⟨by omega, by omega, by omega⟩ | ((try simp only [decide_eq_true_eq, Bool.and_eq_true, ne_eq, decide_not, Bool.not_eq_true', Bool.not_eq_false', Bool.or_eq_false_iff, Bool.not_not, decide_eq_false_iff_not]); (try intro hh); (repeat' apply And.intro) <;> (first | omega | (simp only [inR]; omega) | assumption | exact hh.1 | exact hh.2 | exact hh.2.1 | exact hh.2.2 | exact hh.1.1 | exact hh.1.2 | (intro hq; exact ⟨hh, hq⟩) | (intro hq; exact ⟨hh.1, hq⟩) | (simp_all; done)))))
  refine hK1 _ ?_
  clear hK1
  refine W_seq (fun K2 hK2 => ?_)
  refine W_seq (fun K3 hK3 => ?_)
  refine W_region hT hG [100104, 100105, 100106, 100107, 100108, 100109, 100110] [0, 18] ?_
  rw [hnt]
  simp only [baseS, eq_self, implies_true, if_true, if_false, reduceIte, Nat.reduceBEq, Nat.reduceEqDiff, Nat.reduceLT, Nat.reduceAdd, reduceCtorEq, relC, callOK0, callOK1, fzE, c_spec_DrawAfterPortR, tyInt, tdInt, tyBool, tdBool, tyBytes, tdBytes, tyHull, tdHull, tyBoxes, tdBoxes, tyInts, tdInts, c_laws_alive, c_laws_sameInts, c_impl_PortMoves, c_laws_portOf, c_spec_DrawAfterPort, c_impl_AfterPort, c_spec_AfterPort, c_impl_PlanFind, c_impl_PlaceOf, c_impl_PlanValid, decide_false, room, Nat.reduceLeDiff, Nat.zero_le, storeAV, rowQ, ownInts, FT.of, FT.setf, elems, appAV_I, appI, srcI, ownI, anyI, sameR, appAV_P, appP, srcP, ownP, anyP, rowsAV, appAV, srcRows, srcFlat, reduceDIte, List.length_append, setAll, Option.isSome_some, List.drop_zero, Int.reduceToNat, List.set_cons_zero, List.set_cons_succ, Int.toNat_natCast]
  repeat (refine And.intro ?_ ?_; focus (first | exact hpre.2 | (simp only [List.length_drop]; omega) | exact hb1 | exact hb2 | first | exact ordP (by kernel_rfl) | with_reducible exact rfl | assumption | trivial | (simp only [inR]; omega) | omega | exact ⟨by omega, by omega⟩ | exact ⟨by omega, by omega, by omega⟩ | ((try simp only [decide_eq_true_eq, Bool.and_eq_true, ne_eq, decide_not, Bool.not_eq_true', Bool.not_eq_false', Bool.or_eq_false_iff, Bool.not_not, decide_eq_false_iff_not]); (try intro hh); (repeat' apply And.intro) <;> (first | omega | (simp only [inR]; omega) | assumption | exact hh.1 | exact hh.2 | exact hh.2.1 | exact hh.2.2 | exact hh.1.1 | exact hh.1.2 | (intro hq; exact ⟨hh, hq⟩) | (intro hq; exact ⟨hh.1, hq⟩) | (simp_all; done)))))
  refine hK3 _ ?_
  clear hK3
  refine W_cond (b := _) rfl (fun hc4 => ?_) (fun hc4 => ?_)
  · try simp only [decide_eq_true_eq, decide_eq_false_iff_not, ne_eq, Decidable.not_not, Bool.not_eq_true', Bool.not_eq_false', Bool.or_eq_true, Bool.and_eq_true, Bool.or_eq_false_iff, Bool.and_eq_false_iff] at hc4
    refine W_seq (fun K5 hK5 => ?_)
    refine W_region hT hG [100104, 100105, 100106, 100107, 100108, 100109, 100110] [2] ?_
    rw [hnt]
    simp only [baseS, eq_self, implies_true, if_true, if_false, reduceIte, Nat.reduceBEq, Nat.reduceEqDiff, Nat.reduceLT, Nat.reduceAdd, reduceCtorEq, relC, callOK0, callOK1, fzE, c_spec_DrawAfterPortR, tyInt, tdInt, tyBool, tdBool, tyBytes, tdBytes, tyHull, tdHull, tyBoxes, tdBoxes, tyInts, tdInts, c_laws_alive, c_laws_sameInts, c_impl_PortMoves, c_laws_portOf, c_spec_DrawAfterPort, c_impl_AfterPort, c_spec_AfterPort, c_impl_PlanFind, c_impl_PlaceOf, c_impl_PlanValid, decide_false, room, Nat.reduceLeDiff, Nat.zero_le, storeAV, rowQ, ownInts, FT.of, FT.setf, elems, appAV_I, appI, srcI, ownI, anyI, sameR, appAV_P, appP, srcP, ownP, anyP, rowsAV, appAV, srcRows, srcFlat, reduceDIte, List.length_append, setAll, Option.isSome_some, List.drop_zero, Int.reduceToNat, List.set_cons_zero, List.set_cons_succ, Int.toNat_natCast]
    repeat (refine And.intro ?_ ?_; focus (first | exact hpre.2 | (simp only [List.length_drop]; omega) | exact hb1 | exact hb2 | first | exact ordP (by kernel_rfl) | with_reducible exact rfl | assumption | trivial | (simp only [inR]; omega) | omega | exact ⟨by omega, by omega⟩ | exact ⟨by omega, by omega, by omega⟩ | ((try simp only [decide_eq_true_eq, Bool.and_eq_true, ne_eq, decide_not, Bool.not_eq_true', Bool.not_eq_false', Bool.or_eq_false_iff, Bool.not_not, decide_eq_false_iff_not]); (try intro hh); (repeat' apply And.intro) <;> (first | omega | (simp only [inR]; omega) | assumption | exact hh.1 | exact hh.2 | exact hh.2.1 | exact hh.2.2 | exact hh.1.1 | exact hh.1.2 | (intro hq; exact ⟨hh, hq⟩) | (intro hq; exact ⟨hh.1, hq⟩) | (simp_all; done)))))
    refine hK5 _ ?_
    clear hK5
    refine W_ret ?_
    simp only [thenQ, blockQ, loopQ, retQ, reduceIte, Nat.reduceEqDiff]
    refine ret0 ?_ rfl rfl (.inr rfl) rfl
    simp only [show Try.f9.results.toList = [ResultVar.tmp 2] from rfl, resAV, resL, look, Nat.reduceEqDiff, reduceIte, tyHull, tdHull, applyUps, noH, isStr, List.length_cons, List.length_nil, Nat.reduceAdd, and_self]
    all_goals (
      first | rfl | (refine congrArg (fun x => some (AV.bool x)) ?_; first | (rw [hpv, hnn2]; rfl) | (simp_all; done)) | skip)
  · try simp only [decide_eq_true_eq, decide_eq_false_iff_not, ne_eq, Decidable.not_not, Bool.not_eq_true', Bool.not_eq_false', Bool.or_eq_true, Bool.and_eq_true, Bool.or_eq_false_iff, Bool.and_eq_false_iff] at hc4
    refine W_skip ?_
    simp only [thenQ, blockQ, loopQ, reduceIte, Nat.reduceEqDiff]
    refine hK2 _ ?_
    clear hK2
    refine W_seq (fun K6 hK6 => ?_)
    refine W_region hT hG [100104, 100105, 100106, 100107, 100108, 100109, 100110] [3, 4, 5, 6] ?_
    rw [hnt]
    simp only [baseS, eq_self, implies_true, if_true, if_false, reduceIte, Nat.reduceBEq, Nat.reduceEqDiff, Nat.reduceLT, Nat.reduceAdd, reduceCtorEq, relC, callOK0, callOK1, fzE, c_spec_DrawAfterPortR, tyInt, tdInt, tyBool, tdBool, tyBytes, tdBytes, tyHull, tdHull, tyBoxes, tdBoxes, tyInts, tdInts, c_laws_alive, c_laws_sameInts, c_impl_PortMoves, c_laws_portOf, c_spec_DrawAfterPort, c_impl_AfterPort, c_spec_AfterPort, c_impl_PlanFind, c_impl_PlaceOf, c_impl_PlanValid, decide_false, room, Nat.reduceLeDiff, Nat.zero_le, storeAV, rowQ, ownInts, FT.of, FT.setf, elems, appAV_I, appI, srcI, ownI, anyI, sameR, appAV_P, appP, srcP, ownP, anyP, rowsAV, appAV, srcRows, srcFlat, reduceDIte, List.length_append, setAll, Option.isSome_some, List.drop_zero, Int.reduceToNat, List.set_cons_zero, List.set_cons_succ, Int.toNat_natCast]
    repeat (refine And.intro ?_ ?_; focus (first | exact hpre.2 | (simp only [List.length_drop]; omega) | exact hb1 | exact hb2 | first | exact ordP (by kernel_rfl) | with_reducible exact rfl | assumption | trivial | (simp only [inR]; omega) | omega | exact ⟨by omega, by omega⟩ | exact ⟨by omega, by omega, by omega⟩ | ((try simp only [decide_eq_true_eq, Bool.and_eq_true, ne_eq, decide_not, Bool.not_eq_true', Bool.not_eq_false', Bool.or_eq_false_iff, Bool.not_not, decide_eq_false_iff_not]); (try intro hh); (repeat' apply And.intro) <;> (first | omega | (simp only [inR]; omega) | assumption | exact hh.1 | exact hh.2 | exact hh.2.1 | exact hh.2.2 | exact hh.1.1 | exact hh.1.2 | (intro hq; exact ⟨hh, hq⟩) | (intro hq; exact ⟨hh.1, hq⟩) | (simp_all; done)))))
    rintro _ ⟨y1, y2, y3, bs, pl, n, rfl, hbl, hpl, hnn⟩
    have hb1 : bs.length ≤ 9223372036854775807 ∧ pl.length ≤ 9223372036854775807 := ⟨by omega, by omega⟩
    have hal := aft_le2 y1 y2 y3 bs pl n
    have hb2 : bs.length ≤ 9223372036854775807 ∧ (aftR y1 y2 y3 bs pl n).length ≤ 9223372036854775807 := ⟨by omega, by omega⟩
    simp only [baseS, eq_self, implies_true, if_true, if_false, reduceIte, Nat.reduceBEq, Nat.reduceEqDiff, Nat.reduceLT, Nat.reduceAdd, reduceCtorEq, relC, callOK0, callOK1, fzE, c_spec_DrawAfterPortR, tyInt, tdInt, tyBool, tdBool, tyBytes, tdBytes, tyHull, tdHull, tyBoxes, tdBoxes, tyInts, tdInts, c_laws_alive, c_laws_sameInts, c_impl_PortMoves, c_laws_portOf, c_spec_DrawAfterPort, c_impl_AfterPort, c_spec_AfterPort, c_impl_PlanFind, c_impl_PlaceOf, c_impl_PlanValid, decide_false, room, Nat.reduceLeDiff, Nat.zero_le, storeAV, rowQ, ownInts, FT.of, FT.setf, elems, appAV_I, appI, srcI, ownI, anyI, sameR, appAV_P, appP, srcP, ownP, anyP, rowsAV, appAV, srcRows, srcFlat, reduceDIte, List.length_append, setAll, Option.isSome_some, List.drop_zero, Int.reduceToNat, List.set_cons_zero, List.set_cons_succ, Int.toNat_natCast]
    repeat (refine And.intro ?_ ?_; focus (first | exact hpre.2 | (simp only [List.length_drop]; omega) | exact hb1 | exact hb2 | first | exact ordP (by kernel_rfl) | with_reducible exact rfl | assumption | trivial | (simp only [inR]; omega) | omega | exact ⟨by omega, by omega⟩ | exact ⟨by omega, by omega, by omega⟩ | ((try simp only [decide_eq_true_eq, Bool.and_eq_true, ne_eq, decide_not, Bool.not_eq_true', Bool.not_eq_false', Bool.or_eq_false_iff, Bool.not_not, decide_eq_false_iff_not]); (try intro hh); (repeat' apply And.intro) <;> (first | omega | (simp only [inR]; omega) | assumption | exact hh.1 | exact hh.2 | exact hh.2.1 | exact hh.2.2 | exact hh.1.1 | exact hh.1.2 | (intro hq; exact ⟨hh, hq⟩) | (intro hq; exact ⟨hh.1, hq⟩) | (simp_all; done)))))
    refine hK6 _ ?_
    clear hK6
    refine W_seq (fun K7 hK7 => ?_)
    refine W_region hT hG [100104, 100105, 100106, 100107, 100108, 100109, 100110] [3, 4, 5, 6, 7] ?_
    rw [hnt]
    simp only [baseS, eq_self, implies_true, if_true, if_false, reduceIte, Nat.reduceBEq, Nat.reduceEqDiff, Nat.reduceLT, Nat.reduceAdd, reduceCtorEq, relC, callOK0, callOK1, fzE, c_spec_DrawAfterPortR, tyInt, tdInt, tyBool, tdBool, tyBytes, tdBytes, tyHull, tdHull, tyBoxes, tdBoxes, tyInts, tdInts, c_laws_alive, c_laws_sameInts, c_impl_PortMoves, c_laws_portOf, c_spec_DrawAfterPort, c_impl_AfterPort, c_spec_AfterPort, c_impl_PlanFind, c_impl_PlaceOf, c_impl_PlanValid, decide_false, room, Nat.reduceLeDiff, Nat.zero_le, storeAV, rowQ, ownInts, FT.of, FT.setf, elems, appAV_I, appI, srcI, ownI, anyI, sameR, appAV_P, appP, srcP, ownP, anyP, rowsAV, appAV, srcRows, srcFlat, reduceDIte, List.length_append, setAll, Option.isSome_some, List.drop_zero, Int.reduceToNat, List.set_cons_zero, List.set_cons_succ, Int.toNat_natCast]
    repeat (refine And.intro ?_ ?_; focus (first | exact hpre.2 | (simp only [List.length_drop]; omega) | exact hb1 | exact hb2 | first | exact ordP (by kernel_rfl) | with_reducible exact rfl | assumption | trivial | (simp only [inR]; omega) | omega | exact ⟨by omega, by omega⟩ | exact ⟨by omega, by omega, by omega⟩ | ((try simp only [decide_eq_true_eq, Bool.and_eq_true, ne_eq, decide_not, Bool.not_eq_true', Bool.not_eq_false', Bool.or_eq_false_iff, Bool.not_not, decide_eq_false_iff_not]); (try intro hh); (repeat' apply And.intro) <;> (first | omega | (simp only [inR]; omega) | assumption | exact hh.1 | exact hh.2 | exact hh.2.1 | exact hh.2.2 | exact hh.1.1 | exact hh.1.2 | (intro hq; exact ⟨hh, hq⟩) | (intro hq; exact ⟨hh.1, hq⟩) | (simp_all; done)))))
    refine hK7 _ ?_
    clear hK7
    refine W_seq (fun K8 hK8 => ?_)
    refine W_seq (fun K9 hK9 => ?_)
    refine W_region hT hG [100104, 100105, 100106, 100107, 100108, 100109, 100110] [3, 4, 5, 6, 7, 38] ?_
    rw [hnt]
    simp only [baseS, eq_self, implies_true, if_true, if_false, reduceIte, Nat.reduceBEq, Nat.reduceEqDiff, Nat.reduceLT, Nat.reduceAdd, reduceCtorEq, relC, callOK0, callOK1, fzE, c_spec_DrawAfterPortR, tyInt, tdInt, tyBool, tdBool, tyBytes, tdBytes, tyHull, tdHull, tyBoxes, tdBoxes, tyInts, tdInts, c_laws_alive, c_laws_sameInts, c_impl_PortMoves, c_laws_portOf, c_spec_DrawAfterPort, c_impl_AfterPort, c_spec_AfterPort, c_impl_PlanFind, c_impl_PlaceOf, c_impl_PlanValid, decide_false, room, Nat.reduceLeDiff, Nat.zero_le, storeAV, rowQ, ownInts, FT.of, FT.setf, elems, appAV_I, appI, srcI, ownI, anyI, sameR, appAV_P, appP, srcP, ownP, anyP, rowsAV, appAV, srcRows, srcFlat, reduceDIte, List.length_append, setAll, Option.isSome_some, List.drop_zero, Int.reduceToNat, List.set_cons_zero, List.set_cons_succ, Int.toNat_natCast]
    repeat (refine And.intro ?_ ?_; focus (first | exact hpre.2 | (simp only [List.length_drop]; omega) | exact hb1 | exact hb2 | first | exact ordP (by kernel_rfl) | with_reducible exact rfl | assumption | trivial | (simp only [inR]; omega) | omega | exact ⟨by omega, by omega⟩ | exact ⟨by omega, by omega, by omega⟩ | ((try simp only [decide_eq_true_eq, Bool.and_eq_true, ne_eq, decide_not, Bool.not_eq_true', Bool.not_eq_false', Bool.or_eq_false_iff, Bool.not_not, decide_eq_false_iff_not]); (try intro hh); (repeat' apply And.intro) <;> (first | omega | (simp only [inR]; omega) | assumption | exact hh.1 | exact hh.2 | exact hh.2.1 | exact hh.2.2 | exact hh.1.1 | exact hh.1.2 | (intro hq; exact ⟨hh, hq⟩) | (intro hq; exact ⟨hh.1, hq⟩) | (simp_all; done)))))
    refine hK9 _ ?_
    clear hK9
    refine W_cond (b := _) rfl (fun hc10 => ?_) (fun hc10 => ?_)
    · try simp only [decide_eq_true_eq, decide_eq_false_iff_not, ne_eq, Decidable.not_not, Bool.not_eq_true', Bool.not_eq_false', Bool.or_eq_true, Bool.and_eq_true, Bool.or_eq_false_iff, Bool.and_eq_false_iff] at hc10
      first | exact absurd rfl hc10 | (simp at hc10; done) | exact absurd trivial hc10
    · try simp only [decide_eq_true_eq, decide_eq_false_iff_not, ne_eq, Decidable.not_not, Bool.not_eq_true', Bool.not_eq_false', Bool.or_eq_true, Bool.and_eq_true, Bool.or_eq_false_iff, Bool.and_eq_false_iff] at hc10
      refine W_skip ?_
      simp only [thenQ, blockQ, loopQ, reduceIte, Nat.reduceEqDiff]
      refine hK8 _ ?_
      clear hK8
      refine W_seq (fun K11 hK11 => ?_)
      refine W_seq (fun K12 hK12 => ?_)
      refine W_region hT hG [100104, 100105, 100106, 100107, 100108, 100109, 100110] [3, 4, 5, 6, 7, 41] ?_
      rw [hnt]
      simp only [baseS, eq_self, implies_true, if_true, if_false, reduceIte, Nat.reduceBEq, Nat.reduceEqDiff, Nat.reduceLT, Nat.reduceAdd, reduceCtorEq, relC, callOK0, callOK1, fzE, c_spec_DrawAfterPortR, tyInt, tdInt, tyBool, tdBool, tyBytes, tdBytes, tyHull, tdHull, tyBoxes, tdBoxes, tyInts, tdInts, c_laws_alive, c_laws_sameInts, c_impl_PortMoves, c_laws_portOf, c_spec_DrawAfterPort, c_impl_AfterPort, c_spec_AfterPort, c_impl_PlanFind, c_impl_PlaceOf, c_impl_PlanValid, decide_false, room, Nat.reduceLeDiff, Nat.zero_le, storeAV, rowQ, ownInts, FT.of, FT.setf, elems, appAV_I, appI, srcI, ownI, anyI, sameR, appAV_P, appP, srcP, ownP, anyP, rowsAV, appAV, srcRows, srcFlat, reduceDIte, List.length_append, setAll, Option.isSome_some, List.drop_zero, Int.reduceToNat, List.set_cons_zero, List.set_cons_succ, Int.toNat_natCast]
      repeat (refine And.intro ?_ ?_; focus (first | exact hpre.2 | (simp only [List.length_drop]; omega) | exact hb1 | exact hb2 | first | exact ordP (by kernel_rfl) | with_reducible exact rfl | assumption | trivial | (simp only [inR]; omega) | omega | exact ⟨by omega, by omega⟩ | exact ⟨by omega, by omega, by omega⟩ | ((try simp only [decide_eq_true_eq, Bool.and_eq_true, ne_eq, decide_not, Bool.not_eq_true', Bool.not_eq_false', Bool.or_eq_false_iff, Bool.not_not, decide_eq_false_iff_not]); (try intro hh); (repeat' apply And.intro) <;> (first | omega | (simp only [inR]; omega) | assumption | exact hh.1 | exact hh.2 | exact hh.2.1 | exact hh.2.2 | exact hh.1.1 | exact hh.1.2 | (intro hq; exact ⟨hh, hq⟩) | (intro hq; exact ⟨hh.1, hq⟩) | (simp_all; done)))))
      refine hK12 _ ?_
      clear hK12
      refine W_cond (b := _) rfl (fun hc13 => ?_) (fun hc13 => ?_)
      · try simp only [decide_eq_true_eq, decide_eq_false_iff_not, ne_eq, Decidable.not_not, Bool.not_eq_true', Bool.not_eq_false', Bool.or_eq_true, Bool.and_eq_true, Bool.or_eq_false_iff, Bool.and_eq_false_iff] at hc13
        refine W_seq (fun K14 hK14 => ?_)
        refine W_region hT hG [100104, 100105, 100106, 100107, 100108, 100109, 100110] [2] ?_
        rw [hnt]
        simp only [baseS, eq_self, implies_true, if_true, if_false, reduceIte, Nat.reduceBEq, Nat.reduceEqDiff, Nat.reduceLT, Nat.reduceAdd, reduceCtorEq, relC, callOK0, callOK1, fzE, c_spec_DrawAfterPortR, tyInt, tdInt, tyBool, tdBool, tyBytes, tdBytes, tyHull, tdHull, tyBoxes, tdBoxes, tyInts, tdInts, c_laws_alive, c_laws_sameInts, c_impl_PortMoves, c_laws_portOf, c_spec_DrawAfterPort, c_impl_AfterPort, c_spec_AfterPort, c_impl_PlanFind, c_impl_PlaceOf, c_impl_PlanValid, decide_false, room, Nat.reduceLeDiff, Nat.zero_le, storeAV, rowQ, ownInts, FT.of, FT.setf, elems, appAV_I, appI, srcI, ownI, anyI, sameR, appAV_P, appP, srcP, ownP, anyP, rowsAV, appAV, srcRows, srcFlat, reduceDIte, List.length_append, setAll, Option.isSome_some, List.drop_zero, Int.reduceToNat, List.set_cons_zero, List.set_cons_succ, Int.toNat_natCast]
        repeat (refine And.intro ?_ ?_; focus (first | exact hpre.2 | (simp only [List.length_drop]; omega) | exact hb1 | exact hb2 | first | exact ordP (by kernel_rfl) | with_reducible exact rfl | assumption | trivial | (simp only [inR]; omega) | omega | exact ⟨by omega, by omega⟩ | exact ⟨by omega, by omega, by omega⟩ | ((try simp only [decide_eq_true_eq, Bool.and_eq_true, ne_eq, decide_not, Bool.not_eq_true', Bool.not_eq_false', Bool.or_eq_false_iff, Bool.not_not, decide_eq_false_iff_not]); (try intro hh); (repeat' apply And.intro) <;> (first | omega | (simp only [inR]; omega) | assumption | exact hh.1 | exact hh.2 | exact hh.2.1 | exact hh.2.2 | exact hh.1.1 | exact hh.1.2 | (intro hq; exact ⟨hh, hq⟩) | (intro hq; exact ⟨hh.1, hq⟩) | (simp_all; done)))))
        refine hK14 _ ?_
        clear hK14
        refine W_ret ?_
        simp only [thenQ, blockQ, loopQ, retQ, reduceIte, Nat.reduceEqDiff]
        refine ret0 ?_ rfl rfl (.inr rfl) rfl
        simp only [show Try.f9.results.toList = [ResultVar.tmp 2] from rfl, resAV, resL, look, Nat.reduceEqDiff, reduceIte, tyHull, tdHull, applyUps, noH, isStr, List.length_cons, List.length_nil, Nat.reduceAdd, and_self]
        all_goals (
          first | rfl | (refine congrArg (fun x => some (AV.bool x)) ?_; first | (rw [hpv, hnn2]; rfl) | (simp_all; done)) | skip)
      · try simp only [decide_eq_true_eq, decide_eq_false_iff_not, ne_eq, Decidable.not_not, Bool.not_eq_true', Bool.not_eq_false', Bool.or_eq_true, Bool.and_eq_true, Bool.or_eq_false_iff, Bool.and_eq_false_iff] at hc13
        refine W_skip ?_
        simp only [thenQ, blockQ, loopQ, reduceIte, Nat.reduceEqDiff]
        refine hK11 _ ?_
        clear hK11
        refine W_seq (fun K15 hK15 => ?_)
        refine W_seq (fun K16 hK16 => ?_)
        refine W_region hT hG [100104, 100105, 100106, 100107, 100108, 100109, 100110] [3, 4, 5, 6, 7, 8] ?_
        rw [hnt]
        have hu := aft_some hc13
        have hpv := aft_planB hu
        have hnn2 := aft_none hu
        simp only [baseS, eq_self, implies_true, if_true, if_false, reduceIte, Nat.reduceBEq, Nat.reduceEqDiff, Nat.reduceLT, Nat.reduceAdd, reduceCtorEq, relC, callOK0, callOK1, fzE, c_spec_DrawAfterPortR, tyInt, tdInt, tyBool, tdBool, tyBytes, tdBytes, tyHull, tdHull, tyBoxes, tdBoxes, tyInts, tdInts, c_laws_alive, c_laws_sameInts, c_impl_PortMoves, c_laws_portOf, c_spec_DrawAfterPort, c_impl_AfterPort, c_spec_AfterPort, c_impl_PlanFind, c_impl_PlaceOf, c_impl_PlanValid, decide_false, room, Nat.reduceLeDiff, Nat.zero_le, storeAV, rowQ, ownInts, FT.of, FT.setf, elems, appAV_I, appI, srcI, ownI, anyI, sameR, appAV_P, appP, srcP, ownP, anyP, rowsAV, appAV, srcRows, srcFlat, reduceDIte, List.length_append, setAll, Option.isSome_some, List.drop_zero, Int.reduceToNat, List.set_cons_zero, List.set_cons_succ, Int.toNat_natCast]
        repeat (refine And.intro ?_ ?_; focus (first | exact hpre.2 | (simp only [List.length_drop]; omega) | exact hb1 | exact hb2 | first | exact ordP (by kernel_rfl) | with_reducible exact rfl | assumption | trivial | (simp only [inR]; omega) | omega | exact ⟨by omega, by omega⟩ | exact ⟨by omega, by omega, by omega⟩ | ((try simp only [decide_eq_true_eq, Bool.and_eq_true, ne_eq, decide_not, Bool.not_eq_true', Bool.not_eq_false', Bool.or_eq_false_iff, Bool.not_not, decide_eq_false_iff_not]); (try intro hh); (repeat' apply And.intro) <;> (first | omega | (simp only [inR]; omega) | assumption | exact hh.1 | exact hh.2 | exact hh.2.1 | exact hh.2.2 | exact hh.1.1 | exact hh.1.2 | (intro hq; exact ⟨hh, hq⟩) | (intro hq; exact ⟨hh.1, hq⟩) | (simp_all; done)))))
        refine hK16 _ ?_
        clear hK16
        refine W_block ?_
        refine W_loop (α := Int) [(3, .var), (4, .as), (5, .as), (6, .as), (7, .fz .i64), (8, .as)] (fun i => ⟨[(3, .op 3 0), (4, .rs .box bs), (5, .rs .i64 pl), (6, .int n), (7, .rs .i64 (aftR y1 y2 y3 bs pl n)), (8, .int i)], [(3, some (.var [.int y1, .int y2, .int y3]))], 112⟩) (fun i => 0 ≤ i ∧ i ≤ pl.length) (fun i => (pl.length - i).toNat) 0 ?_ ?_ ?_
        · (try simp only [hnt, hnp]); rfl
        · exact ⟨by omega, by omega⟩
        rintro i hi
        refine W_seq (fun K18 hK18 => ?_)
        refine W_seq (fun K19 hK19 => ?_)
        refine W_region hT hG [100104, 100105, 100106, 100107, 100108, 100109, 100110] [3, 4, 5, 6, 7, 8, 46] ?_
        rw [hnt]
        simp only [baseS, eq_self, implies_true, if_true, if_false, reduceIte, Nat.reduceBEq, Nat.reduceEqDiff, Nat.reduceLT, Nat.reduceAdd, reduceCtorEq, relC, callOK0, callOK1, fzE, c_spec_DrawAfterPortR, tyInt, tdInt, tyBool, tdBool, tyBytes, tdBytes, tyHull, tdHull, tyBoxes, tdBoxes, tyInts, tdInts, c_laws_alive, c_laws_sameInts, c_impl_PortMoves, c_laws_portOf, c_spec_DrawAfterPort, c_impl_AfterPort, c_spec_AfterPort, c_impl_PlanFind, c_impl_PlaceOf, c_impl_PlanValid, decide_false, room, Nat.reduceLeDiff, Nat.zero_le, storeAV, rowQ, ownInts, FT.of, FT.setf, elems, appAV_I, appI, srcI, ownI, anyI, sameR, appAV_P, appP, srcP, ownP, anyP, rowsAV, appAV, srcRows, srcFlat, reduceDIte, List.length_append, setAll, Option.isSome_some, List.drop_zero, Int.reduceToNat, List.set_cons_zero, List.set_cons_succ, Int.toNat_natCast]
        repeat (refine And.intro ?_ ?_; focus (first | exact hpre.2 | (simp only [List.length_drop]; omega) | exact hb1 | exact hb2 | first | exact ordP (by kernel_rfl) | with_reducible exact rfl | assumption | trivial | (simp only [inR]; omega) | omega | exact ⟨by omega, by omega⟩ | exact ⟨by omega, by omega, by omega⟩ | ((try simp only [decide_eq_true_eq, Bool.and_eq_true, ne_eq, decide_not, Bool.not_eq_true', Bool.not_eq_false', Bool.or_eq_false_iff, Bool.not_not, decide_eq_false_iff_not]); (try intro hh); (repeat' apply And.intro) <;> (first | omega | (simp only [inR]; omega) | assumption | exact hh.1 | exact hh.2 | exact hh.2.1 | exact hh.2.2 | exact hh.1.1 | exact hh.1.2 | (intro hq; exact ⟨hh, hq⟩) | (intro hq; exact ⟨hh.1, hq⟩) | (simp_all; done)))))
        refine hK19 _ ?_
        clear hK19
        refine W_cond (b := _) rfl (fun hc20 => ?_) (fun hc20 => ?_)
        · try simp only [decide_eq_true_eq, decide_eq_false_iff_not, ne_eq, Decidable.not_not, Bool.not_eq_true', Bool.not_eq_false', Bool.or_eq_true, Bool.and_eq_true, Bool.or_eq_false_iff, Bool.and_eq_false_iff] at hc20
          refine W_skip ?_
          simp only [thenQ, blockQ, loopQ, reduceIte, Nat.reduceEqDiff]
          refine hK18 _ ?_
          clear hK18
          refine W_seq (fun K21 hK21 => ?_)
          refine W_block ?_
          refine W_seq (fun K22 hK22 => ?_)
          refine W_region_draw hT hG (by rw [hP]; exact draws_ok) [100104, 100105, 100106, 100107, 100108, 100109, 100110] [3, 4, 5, 6, 7, 8, 9] ?_
          rw [hnt]
          simp only [baseS, eq_self, implies_true, if_true, if_false, reduceIte, Nat.reduceBEq, Nat.reduceEqDiff, Nat.reduceLT, Nat.reduceAdd, reduceCtorEq, relC, callOK0, callOK1, fzE, c_spec_DrawAfterPortR, tyInt, tdInt, tyBool, tdBool, tyBytes, tdBytes, tyHull, tdHull, tyBoxes, tdBoxes, tyInts, tdInts, c_laws_alive, c_laws_sameInts, c_impl_PortMoves, c_laws_portOf, c_spec_DrawAfterPort, c_impl_AfterPort, c_spec_AfterPort, c_impl_PlanFind, c_impl_PlaceOf, c_impl_PlanValid, decide_false, room, Nat.reduceLeDiff, Nat.zero_le, storeAV, rowQ, ownInts, FT.of, FT.setf, elems, appAV_I, appI, srcI, ownI, anyI, sameR, appAV_P, appP, srcP, ownP, anyP, rowsAV, appAV, srcRows, srcFlat, reduceDIte, List.length_append, setAll, Option.isSome_some, List.drop_zero, Int.reduceToNat, List.set_cons_zero, List.set_cons_succ, Int.toNat_natCast]
          repeat (refine And.intro ?_ ?_; focus (first | exact hpre.2 | (simp only [List.length_drop]; omega) | exact hb1 | exact hb2 | first | exact ordP (by kernel_rfl) | with_reducible exact rfl | assumption | trivial | (simp only [inR]; omega) | omega | exact ⟨by omega, by omega⟩ | exact ⟨by omega, by omega, by omega⟩ | ((try simp only [decide_eq_true_eq, Bool.and_eq_true, ne_eq, decide_not, Bool.not_eq_true', Bool.not_eq_false', Bool.or_eq_false_iff, Bool.not_not, decide_eq_false_iff_not]); (try intro hh); (repeat' apply And.intro) <;> (first | omega | (simp only [inR]; omega) | assumption | exact hh.1 | exact hh.2 | exact hh.2.1 | exact hh.2.2 | exact hh.1.1 | exact hh.1.2 | (intro hq; exact ⟨hh, hq⟩) | (intro hq; exact ⟨hh.1, hq⟩) | (simp_all; done)))))
          refine hK22 _ ?_
          clear hK22
          refine W_seq (fun K23 hK23 => ?_)
          refine W_seq (fun K24 hK24 => ?_)
          refine W_region hT hG [100104, 100105, 100106, 100107, 100108, 100109, 100110] [3, 4, 5, 6, 7, 8, 9, 61] ?_
          rw [hnt]
          simp only [baseS, eq_self, implies_true, if_true, if_false, reduceIte, Nat.reduceBEq, Nat.reduceEqDiff, Nat.reduceLT, Nat.reduceAdd, reduceCtorEq, relC, callOK0, callOK1, fzE, c_spec_DrawAfterPortR, tyInt, tdInt, tyBool, tdBool, tyBytes, tdBytes, tyHull, tdHull, tyBoxes, tdBoxes, tyInts, tdInts, c_laws_alive, c_laws_sameInts, c_impl_PortMoves, c_laws_portOf, c_spec_DrawAfterPort, c_impl_AfterPort, c_spec_AfterPort, c_impl_PlanFind, c_impl_PlaceOf, c_impl_PlanValid, decide_false, room, Nat.reduceLeDiff, Nat.zero_le, storeAV, rowQ, ownInts, FT.of, FT.setf, elems, appAV_I, appI, srcI, ownI, anyI, sameR, appAV_P, appP, srcP, ownP, anyP, rowsAV, appAV, srcRows, srcFlat, reduceDIte, List.length_append, setAll, Option.isSome_some, List.drop_zero, Int.reduceToNat, List.set_cons_zero, List.set_cons_succ, Int.toNat_natCast]
          repeat (refine And.intro ?_ ?_; focus (first | exact hpre.2 | (simp only [List.length_drop]; omega) | exact hb1 | exact hb2 | first | exact ordP (by kernel_rfl) | with_reducible exact rfl | assumption | trivial | (simp only [inR]; omega) | omega | exact ⟨by omega, by omega⟩ | exact ⟨by omega, by omega, by omega⟩ | ((try simp only [decide_eq_true_eq, Bool.and_eq_true, ne_eq, decide_not, Bool.not_eq_true', Bool.not_eq_false', Bool.or_eq_false_iff, Bool.not_not, decide_eq_false_iff_not]); (try intro hh); (repeat' apply And.intro) <;> (first | omega | (simp only [inR]; omega) | assumption | exact hh.1 | exact hh.2 | exact hh.2.1 | exact hh.2.2 | exact hh.1.1 | exact hh.1.2 | (intro hq; exact ⟨hh, hq⟩) | (intro hq; exact ⟨hh.1, hq⟩) | (simp_all; done)))))
          refine hK24 _ ?_
          clear hK24
          refine W_cond (b := _) rfl (fun hc25 => ?_) (fun hc25 => ?_)
          · try simp only [decide_eq_true_eq, decide_eq_false_iff_not, ne_eq, Decidable.not_not, Bool.not_eq_true', Bool.not_eq_false', Bool.or_eq_true, Bool.and_eq_true, Bool.or_eq_false_iff, Bool.and_eq_false_iff] at hc25
            refine W_exit ?_
            simp only [thenQ, blockQ, loopQ, reduceIte, Nat.reduceEqDiff]
            refine hK21 _ ?_
            clear hK21
            refine W_region hT hG [100104, 100105, 100106, 100107, 100108, 100109, 100110] [3, 4, 5, 6, 7, 8] ?_
            rw [hnt]
            simp only [baseS, eq_self, implies_true, if_true, if_false, reduceIte, Nat.reduceBEq, Nat.reduceEqDiff, Nat.reduceLT, Nat.reduceAdd, reduceCtorEq, relC, callOK0, callOK1, fzE, c_spec_DrawAfterPortR, tyInt, tdInt, tyBool, tdBool, tyBytes, tdBytes, tyHull, tdHull, tyBoxes, tdBoxes, tyInts, tdInts, c_laws_alive, c_laws_sameInts, c_impl_PortMoves, c_laws_portOf, c_spec_DrawAfterPort, c_impl_AfterPort, c_spec_AfterPort, c_impl_PlanFind, c_impl_PlaceOf, c_impl_PlanValid, decide_false, room, Nat.reduceLeDiff, Nat.zero_le, storeAV, rowQ, ownInts, FT.of, FT.setf, elems, appAV_I, appI, srcI, ownI, anyI, sameR, appAV_P, appP, srcP, ownP, anyP, rowsAV, appAV, srcRows, srcFlat, reduceDIte, List.length_append, setAll, Option.isSome_some, List.drop_zero, Int.reduceToNat, List.set_cons_zero, List.set_cons_succ, Int.toNat_natCast]
            repeat (refine And.intro ?_ ?_; focus (first | exact hpre.2 | (simp only [List.length_drop]; omega) | exact hb1 | exact hb2 | first | exact ordP (by kernel_rfl) | with_reducible exact rfl | assumption | trivial | (simp only [inR]; omega) | omega | exact ⟨by omega, by omega⟩ | exact ⟨by omega, by omega, by omega⟩ | ((try simp only [decide_eq_true_eq, Bool.and_eq_true, ne_eq, decide_not, Bool.not_eq_true', Bool.not_eq_false', Bool.or_eq_false_iff, Bool.not_not, decide_eq_false_iff_not]); (try intro hh); (repeat' apply And.intro) <;> (first | omega | (simp only [inR]; omega) | assumption | exact hh.1 | exact hh.2 | exact hh.2.1 | exact hh.2.2 | exact hh.1.1 | exact hh.1.2 | (intro hq; exact ⟨hh, hq⟩) | (intro hq; exact ⟨hh.1, hq⟩) | (simp_all; done)))))
            refine ⟨i + 1, (by (try simp only [hnt, hnp]); rfl), ⟨by omega, by omega⟩, by dsimp only; omega⟩
          · try simp only [decide_eq_true_eq, decide_eq_false_iff_not, ne_eq, Decidable.not_not, Bool.not_eq_true', Bool.not_eq_false', Bool.or_eq_true, Bool.and_eq_true, Bool.or_eq_false_iff, Bool.and_eq_false_iff] at hc25
            refine W_skip ?_
            simp only [thenQ, blockQ, loopQ, reduceIte, Nat.reduceEqDiff]
            refine hK23 _ ?_
            clear hK23
            refine W_seq (fun K26 hK26 => ?_)
            refine W_seq (fun K27 hK27 => ?_)
            refine W_region hT hG [100104, 100105, 100106, 100107, 100108, 100109, 100110] [3, 4, 5, 6, 7, 8, 9, 72] ?_
            rw [hnt]
            have hd := aft_law hu (i := i) ⟨hi.1, by omega⟩ hc25
            simp only [baseS, eq_self, implies_true, if_true, if_false, reduceIte, Nat.reduceBEq, Nat.reduceEqDiff, Nat.reduceLT, Nat.reduceAdd, reduceCtorEq, relC, callOK0, callOK1, fzE, c_spec_DrawAfterPortR, tyInt, tdInt, tyBool, tdBool, tyBytes, tdBytes, tyHull, tdHull, tyBoxes, tdBoxes, tyInts, tdInts, c_laws_alive, c_laws_sameInts, c_impl_PortMoves, c_laws_portOf, c_spec_DrawAfterPort, c_impl_AfterPort, c_spec_AfterPort, c_impl_PlanFind, c_impl_PlaceOf, c_impl_PlanValid, decide_false, room, Nat.reduceLeDiff, Nat.zero_le, storeAV, rowQ, ownInts, FT.of, FT.setf, elems, appAV_I, appI, srcI, ownI, anyI, sameR, appAV_P, appP, srcP, ownP, anyP, rowsAV, appAV, srcRows, srcFlat, reduceDIte, List.length_append, setAll, Option.isSome_some, List.drop_zero, Int.reduceToNat, List.set_cons_zero, List.set_cons_succ, Int.toNat_natCast]
            repeat (refine And.intro ?_ ?_; focus (first | exact hpre.2 | (simp only [List.length_drop]; omega) | exact hb1 | exact hb2 | first | exact ordP (by kernel_rfl) | with_reducible exact rfl | assumption | trivial | (simp only [inR]; omega) | omega | exact ⟨by omega, by omega⟩ | exact ⟨by omega, by omega, by omega⟩ | ((try simp only [decide_eq_true_eq, Bool.and_eq_true, ne_eq, decide_not, Bool.not_eq_true', Bool.not_eq_false', Bool.or_eq_false_iff, Bool.not_not, decide_eq_false_iff_not]); (try intro hh); (repeat' apply And.intro) <;> (first | omega | (simp only [inR]; omega) | assumption | exact hh.1 | exact hh.2 | exact hh.2.1 | exact hh.2.2 | exact hh.1.1 | exact hh.1.2 | (intro hq; exact ⟨hh, hq⟩) | (intro hq; exact ⟨hh.1, hq⟩) | (simp_all; done)))))
            refine hK27 _ ?_
            clear hK27
            refine W_cond (b := _) rfl (fun hc28 => ?_) (fun hc28 => ?_)
            · try simp only [decide_eq_true_eq, decide_eq_false_iff_not, ne_eq, Decidable.not_not, Bool.not_eq_true', Bool.not_eq_false', Bool.or_eq_true, Bool.and_eq_true, Bool.or_eq_false_iff, Bool.and_eq_false_iff] at hc28
              rw [bne_iff_ne] at hc28
              exact absurd hd.1 hc28
            · try simp only [decide_eq_true_eq, decide_eq_false_iff_not, ne_eq, Decidable.not_not, Bool.not_eq_true', Bool.not_eq_false', Bool.or_eq_true, Bool.and_eq_true, Bool.or_eq_false_iff, Bool.and_eq_false_iff] at hc28
              refine W_skip ?_
              simp only [thenQ, blockQ, loopQ, reduceIte, Nat.reduceEqDiff]
              refine hK26 _ ?_
              clear hK26
              refine W_seq (fun K29 hK29 => ?_)
              refine W_region hT hG [100104, 100105, 100106, 100107, 100108, 100109, 100110] [3, 4, 5, 6, 7, 8, 9, 10, 11] ?_
              rw [hnt]
              simp only [baseS, eq_self, implies_true, if_true, if_false, reduceIte, Nat.reduceBEq, Nat.reduceEqDiff, Nat.reduceLT, Nat.reduceAdd, reduceCtorEq, relC, callOK0, callOK1, fzE, c_spec_DrawAfterPortR, tyInt, tdInt, tyBool, tdBool, tyBytes, tdBytes, tyHull, tdHull, tyBoxes, tdBoxes, tyInts, tdInts, c_laws_alive, c_laws_sameInts, c_impl_PortMoves, c_laws_portOf, c_spec_DrawAfterPort, c_impl_AfterPort, c_spec_AfterPort, c_impl_PlanFind, c_impl_PlaceOf, c_impl_PlanValid, decide_false, room, Nat.reduceLeDiff, Nat.zero_le, storeAV, rowQ, ownInts, FT.of, FT.setf, elems, appAV_I, appI, srcI, ownI, anyI, sameR, appAV_P, appP, srcP, ownP, anyP, rowsAV, appAV, srcRows, srcFlat, reduceDIte, List.length_append, setAll, Option.isSome_some, List.drop_zero, Int.reduceToNat, List.set_cons_zero, List.set_cons_succ, Int.toNat_natCast]
              repeat (refine And.intro ?_ ?_; focus (first | exact hpre.2 | (simp only [List.length_drop]; omega) | exact hb1 | exact hb2 | first | exact ordP (by kernel_rfl) | with_reducible exact rfl | assumption | trivial | (simp only [inR]; omega) | omega | exact ⟨by omega, by omega⟩ | exact ⟨by omega, by omega, by omega⟩ | ((try simp only [decide_eq_true_eq, Bool.and_eq_true, ne_eq, decide_not, Bool.not_eq_true', Bool.not_eq_false', Bool.or_eq_false_iff, Bool.not_not, decide_eq_false_iff_not]); (try intro hh); (repeat' apply And.intro) <;> (first | omega | (simp only [inR]; omega) | assumption | exact hh.1 | exact hh.2 | exact hh.2.1 | exact hh.2.2 | exact hh.1.1 | exact hh.1.2 | (intro hq; exact ⟨hh, hq⟩) | (intro hq; exact ⟨hh.1, hq⟩) | (simp_all; done)))))
              refine hK29 _ ?_
              clear hK29
              refine W_seq (fun K30 hK30 => ?_)
              refine W_region hT hG [100104, 100105, 100106, 100107, 100108, 100109, 100110] [3, 4, 5, 6, 7, 8, 9, 10, 11, 13, 14] ?_
              rw [hnt]
              simp only [baseS, eq_self, implies_true, if_true, if_false, reduceIte, Nat.reduceBEq, Nat.reduceEqDiff, Nat.reduceLT, Nat.reduceAdd, reduceCtorEq, relC, callOK0, callOK1, fzE, c_spec_DrawAfterPortR, tyInt, tdInt, tyBool, tdBool, tyBytes, tdBytes, tyHull, tdHull, tyBoxes, tdBoxes, tyInts, tdInts, c_laws_alive, c_laws_sameInts, c_impl_PortMoves, c_laws_portOf, c_spec_DrawAfterPort, c_impl_AfterPort, c_spec_AfterPort, c_impl_PlanFind, c_impl_PlaceOf, c_impl_PlanValid, decide_false, room, Nat.reduceLeDiff, Nat.zero_le, storeAV, rowQ, ownInts, FT.of, FT.setf, elems, appAV_I, appI, srcI, ownI, anyI, sameR, appAV_P, appP, srcP, ownP, anyP, rowsAV, appAV, srcRows, srcFlat, reduceDIte, List.length_append, setAll, Option.isSome_some, List.drop_zero, Int.reduceToNat, List.set_cons_zero, List.set_cons_succ, Int.toNat_natCast]
              repeat (refine And.intro ?_ ?_; focus (first | exact hpre.2 | (simp only [List.length_drop]; omega) | exact hb1 | exact hb2 | first | exact ordP (by kernel_rfl) | with_reducible exact rfl | assumption | trivial | (simp only [inR]; omega) | omega | exact ⟨by omega, by omega⟩ | exact ⟨by omega, by omega, by omega⟩ | ((try simp only [decide_eq_true_eq, Bool.and_eq_true, ne_eq, decide_not, Bool.not_eq_true', Bool.not_eq_false', Bool.or_eq_false_iff, Bool.not_not, decide_eq_false_iff_not]); (try intro hh); (repeat' apply And.intro) <;> (first | omega | (simp only [inR]; omega) | assumption | exact hh.1 | exact hh.2 | exact hh.2.1 | exact hh.2.2 | exact hh.1.1 | exact hh.1.2 | (intro hq; exact ⟨hh, hq⟩) | (intro hq; exact ⟨hh.1, hq⟩) | (simp_all; done)))))
              refine hK30 _ ?_
              clear hK30
              refine W_seq (fun K31 hK31 => ?_)
              refine W_region hT hG [100104, 100105, 100106, 100107, 100108, 100109, 100110] [3, 4, 5, 6, 7, 8, 98] ?_
              rw [hnt]
              simp only [baseS, eq_self, implies_true, if_true, if_false, reduceIte, Nat.reduceBEq, Nat.reduceEqDiff, Nat.reduceLT, Nat.reduceAdd, reduceCtorEq, relC, callOK0, callOK1, fzE, c_spec_DrawAfterPortR, tyInt, tdInt, tyBool, tdBool, tyBytes, tdBytes, tyHull, tdHull, tyBoxes, tdBoxes, tyInts, tdInts, c_laws_alive, c_laws_sameInts, c_impl_PortMoves, c_laws_portOf, c_spec_DrawAfterPort, c_impl_AfterPort, c_spec_AfterPort, c_impl_PlanFind, c_impl_PlaceOf, c_impl_PlanValid, decide_false, room, Nat.reduceLeDiff, Nat.zero_le, storeAV, rowQ, ownInts, FT.of, FT.setf, elems, appAV_I, appI, srcI, ownI, anyI, sameR, appAV_P, appP, srcP, ownP, anyP, rowsAV, appAV, srcRows, srcFlat, reduceDIte, List.length_append, setAll, Option.isSome_some, List.drop_zero, Int.reduceToNat, List.set_cons_zero, List.set_cons_succ, Int.toNat_natCast]
              repeat (refine And.intro ?_ ?_; focus (first | exact hpre.2 | (simp only [List.length_drop]; omega) | exact hb1 | exact hb2 | first | exact ordP (by kernel_rfl) | with_reducible exact rfl | assumption | trivial | (simp only [inR]; omega) | omega | exact ⟨by omega, by omega⟩ | exact ⟨by omega, by omega, by omega⟩ | ((try simp only [decide_eq_true_eq, Bool.and_eq_true, ne_eq, decide_not, Bool.not_eq_true', Bool.not_eq_false', Bool.or_eq_false_iff, Bool.not_not, decide_eq_false_iff_not]); (try intro hh); (repeat' apply And.intro) <;> (first | omega | (simp only [inR]; omega) | assumption | exact hh.1 | exact hh.2 | exact hh.2.1 | exact hh.2.2 | exact hh.1.1 | exact hh.1.2 | (intro hq; exact ⟨hh, hq⟩) | (intro hq; exact ⟨hh.1, hq⟩) | (simp_all; done)))))
              refine hK31 _ ?_
              clear hK31
              refine W_cond (b := _) rfl (fun hc32 => ?_) (fun hc32 => ?_)
              · try simp only [decide_eq_true_eq, decide_eq_false_iff_not, ne_eq, Decidable.not_not, Bool.not_eq_true', Bool.not_eq_false', Bool.or_eq_true, Bool.and_eq_true, Bool.or_eq_false_iff, Bool.and_eq_false_iff] at hc32
                obtain ⟨h1, h2⟩ := hc32
                have hs := hd.2 h1
                rcases h2 with h | h
                · exact absurd hs.1 h
                · exact absurd hs.2 h
              · try simp only [decide_eq_true_eq, decide_eq_false_iff_not, ne_eq, Decidable.not_not, Bool.not_eq_true', Bool.not_eq_false', Bool.or_eq_true, Bool.and_eq_true, Bool.or_eq_false_iff, Bool.and_eq_false_iff] at hc32
                refine W_skip ?_
                simp only [thenQ, blockQ, loopQ, reduceIte, Nat.reduceEqDiff]
                refine hK21 _ ?_
                clear hK21
                refine W_region hT hG [100104, 100105, 100106, 100107, 100108, 100109, 100110] [3, 4, 5, 6, 7, 8] ?_
                rw [hnt]
                simp only [baseS, eq_self, implies_true, if_true, if_false, reduceIte, Nat.reduceBEq, Nat.reduceEqDiff, Nat.reduceLT, Nat.reduceAdd, reduceCtorEq, relC, callOK0, callOK1, fzE, c_spec_DrawAfterPortR, tyInt, tdInt, tyBool, tdBool, tyBytes, tdBytes, tyHull, tdHull, tyBoxes, tdBoxes, tyInts, tdInts, c_laws_alive, c_laws_sameInts, c_impl_PortMoves, c_laws_portOf, c_spec_DrawAfterPort, c_impl_AfterPort, c_spec_AfterPort, c_impl_PlanFind, c_impl_PlaceOf, c_impl_PlanValid, decide_false, room, Nat.reduceLeDiff, Nat.zero_le, storeAV, rowQ, ownInts, FT.of, FT.setf, elems, appAV_I, appI, srcI, ownI, anyI, sameR, appAV_P, appP, srcP, ownP, anyP, rowsAV, appAV, srcRows, srcFlat, reduceDIte, List.length_append, setAll, Option.isSome_some, List.drop_zero, Int.reduceToNat, List.set_cons_zero, List.set_cons_succ, Int.toNat_natCast]
                repeat (refine And.intro ?_ ?_; focus (first | exact hpre.2 | (simp only [List.length_drop]; omega) | exact hb1 | exact hb2 | first | exact ordP (by kernel_rfl) | with_reducible exact rfl | assumption | trivial | (simp only [inR]; omega) | omega | exact ⟨by omega, by omega⟩ | exact ⟨by omega, by omega, by omega⟩ | ((try simp only [decide_eq_true_eq, Bool.and_eq_true, ne_eq, decide_not, Bool.not_eq_true', Bool.not_eq_false', Bool.or_eq_false_iff, Bool.not_not, decide_eq_false_iff_not]); (try intro hh); (repeat' apply And.intro) <;> (first | omega | (simp only [inR]; omega) | assumption | exact hh.1 | exact hh.2 | exact hh.2.1 | exact hh.2.2 | exact hh.1.1 | exact hh.1.2 | (intro hq; exact ⟨hh, hq⟩) | (intro hq; exact ⟨hh.1, hq⟩) | (simp_all; done)))))
                refine ⟨i + 1, (by (try simp only [hnt, hnp]); rfl), ⟨by omega, by omega⟩, by dsimp only; omega⟩
        · try simp only [decide_eq_true_eq, decide_eq_false_iff_not, ne_eq, Decidable.not_not, Bool.not_eq_true', Bool.not_eq_false', Bool.or_eq_true, Bool.and_eq_true, Bool.or_eq_false_iff, Bool.and_eq_false_iff] at hc20
          refine W_exit ?_
          simp only [thenQ, blockQ, loopQ, reduceIte, Nat.reduceEqDiff]
          refine hK15 _ ?_
          clear hK15
          refine W_seq (fun K33 hK33 => ?_)
          refine W_region hT hG [100104, 100105, 100106, 100107, 100108, 100109, 100110] [2] ?_
          rw [hnt]
          simp only [baseS, eq_self, implies_true, if_true, if_false, reduceIte, Nat.reduceBEq, Nat.reduceEqDiff, Nat.reduceLT, Nat.reduceAdd, reduceCtorEq, relC, callOK0, callOK1, fzE, c_spec_DrawAfterPortR, tyInt, tdInt, tyBool, tdBool, tyBytes, tdBytes, tyHull, tdHull, tyBoxes, tdBoxes, tyInts, tdInts, c_laws_alive, c_laws_sameInts, c_impl_PortMoves, c_laws_portOf, c_spec_DrawAfterPort, c_impl_AfterPort, c_spec_AfterPort, c_impl_PlanFind, c_impl_PlaceOf, c_impl_PlanValid, decide_false, room, Nat.reduceLeDiff, Nat.zero_le, storeAV, rowQ, ownInts, FT.of, FT.setf, elems, appAV_I, appI, srcI, ownI, anyI, sameR, appAV_P, appP, srcP, ownP, anyP, rowsAV, appAV, srcRows, srcFlat, reduceDIte, List.length_append, setAll, Option.isSome_some, List.drop_zero, Int.reduceToNat, List.set_cons_zero, List.set_cons_succ, Int.toNat_natCast, hpv, hnn2]
          repeat (refine And.intro ?_ ?_; focus (first | exact hpre.2 | (simp only [List.length_drop]; omega) | exact hb1 | exact hb2 | first | exact ordP (by kernel_rfl) | with_reducible exact rfl | assumption | trivial | (simp only [inR]; omega) | omega | exact ⟨by omega, by omega⟩ | exact ⟨by omega, by omega, by omega⟩ | ((try simp only [decide_eq_true_eq, Bool.and_eq_true, ne_eq, decide_not, Bool.not_eq_true', Bool.not_eq_false', Bool.or_eq_false_iff, Bool.not_not, decide_eq_false_iff_not]); (try intro hh); (repeat' apply And.intro) <;> (first | omega | (simp only [inR]; omega) | assumption | exact hh.1 | exact hh.2 | exact hh.2.1 | exact hh.2.2 | exact hh.1.1 | exact hh.1.2 | (intro hq; exact ⟨hh, hq⟩) | (intro hq; exact ⟨hh.1, hq⟩) | (simp_all; done)))))
          refine hK33 _ ?_
          clear hK33
          refine W_ret ?_
          simp only [thenQ, blockQ, loopQ, retQ, reduceIte, Nat.reduceEqDiff]
          refine ret0 ?_ rfl rfl (.inr rfl) rfl
          simp only [show Try.f9.results.toList = [ResultVar.tmp 2] from rfl, resAV, resL, look, Nat.reduceEqDiff, reduceIte, tyHull, tdHull, applyUps, noH, isStr, List.length_cons, List.length_nil, Nat.reduceAdd, and_self]
          all_goals (
            first | rfl | (refine congrArg (fun x => some (AV.bool x)) ?_; first | (rw [hpv, hnn2]; rfl) | (simp_all; done)) | skip)

end Go.Proofs.Ytjkghldkemoddaa
