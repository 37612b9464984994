/- Walk over the law laws.FnTrimOf. No condition. -/
import Derived.Test.YtjkghldkemoddaaDrawP
import Derived.Test.YtjkghldkemoddaaMirr
import Derived.Test.YtjkghldkemoddaaSteady
import Derived.Test.YtjkghldkemoddaaLoadB
import Derived.Test.YtjkghldkemoddaaAlive
import Derived.Test.YtjkghldkemoddaaTopU
namespace Go.Proofs.Ytjkghldkemoddaa
open Go
set_option linter.unusedVariables false
set_option linter.unusedSimpArgs false

theorem trim_no {b r t : Int} {bs : List BoxD} {p : List Int} (h : planB b r t bs p = false) : trimR b r t bs p = 0 := by
  rw [trimR, if_neg (by rw [h]; simp)]
theorem most_le {b l : Int} (h : (0 ≤ l ∧ l ≤ 1080) ∧ (1 ≤ b ∧ b ≤ 4)) : 0 ≤ l * (b - 1) ∧ l * (b - 1) ≤ 3240 := by
  have h1 : 0 ≤ l * (b - 1) := Int.mul_nonneg h.1.1 (by omega)
  have h2 : l * (b - 1) ≤ 1080 * 3 := Int.mul_le_mul h.1.2 (by omega) (by omega) (by omega)
  omega

def c_laws_FnTrimOf : Ctr where
  modes := [.v (.r .u8)]
  al := false
  run := fun xs os => match xs, os with
    | [.rs .u8 b], [] => some ⟨b.length ≤ 9223372036854775807 ∧ ∀ x ∈ b, 0 ≤ x ∧ x ≤ 255, .bool true, [], []⟩
    | _, _ => none
theorem m_laws_FnTrimOf : Meets Try.prog 7 c_laws_FnTrimOf := by
  refine meets_of (T := tyT) tyOK Try.func7 (by rfl) rfl (by decide) ?_
  intro args owns R hrun hpre
  simp only [c_laws_FnTrimOf] at hrun
  split at hrun
  case h_2 => cases hrun
  rename_i b
  cases hrun
  try dsimp only at hpre
  refine ⟨_, rfl, fun E hP hnt hnp => ?_⟩
  replace hnt : E.nt = 117 := hnt
  replace hnp : E.np = 1 := hnp
  have hT : ∀ t d, tyT t = some d → TyOK E.P t d := hP ▸ tyOK
  have hG : ∀ f C, Γof [(16, c_impl_LoadOf), (18, c_laws_alive), (23, c_impl_HeelOf), (26, c_impl_TrimOf), (36, c_spec_DrawTrimOf), (37, c_spec_TrimOf), (38, c_laws_turned)] f = some C → Meets E.P f C := hΓof (by rw [hP]; exact ⟨m_impl_LoadOf, m_laws_alive, m_impl_HeelOf, m_impl_TrimOf, m_spec_DrawTrimOf, m_spec_TrimOf, m_laws_turned, trivial⟩)
  try simp only [show Try.f7.ntmps = 117 from rfl]
  refine W_seq (fun K1 hK1 => ?_)
  refine W_region hT hG [] [0] ?_
  rw [hnt]
  simp only [baseS, eq_self, implies_true, if_true, if_false, reduceIte, Nat.reduceBEq, Nat.reduceEqDiff, Nat.reduceLT, Nat.reduceAdd, reduceCtorEq, relC, callOK0, callOK1, fzE, c_spec_DrawTrimOfR, tyInt, tdInt, tyBool, tdBool, tyBytes, tdBytes, tyHull, tdHull, tyBoxes, tdBoxes, tyInts, tdInts, c_impl_LoadOf, c_laws_alive, c_impl_HeelOf, c_impl_TrimOf, c_spec_DrawTrimOf, c_spec_TrimOf, c_laws_turned, decide_false, room, Nat.reduceLeDiff, Nat.zero_le, storeAV, rowQ, ownInts, FT.of, FT.setf, elems, appAV_I, appI, srcI, ownI, anyI, sameR, appAV_P, appP, srcP, ownP, anyP, rowsAV, appAV, srcRows, srcFlat, reduceDIte, List.length_append, setAll, Option.isSome_some, List.drop_zero, Int.reduceToNat, List.set_cons_zero, List.set_cons_succ]
  repeat (refine And.intro ?_ ?_; focus (first | exact hpre.2 | (simp only [List.length_drop]; omega) | exact hb1 | exact ⟨hu.ship, hu.len⟩ | exact ⟨by omega, by rw [imgR_len]; omega⟩ | first | exact ordP (by kernel_rfl) | with_reducible exact rfl | assumption | trivial | (simp only [inR]; omega) | omega | exact ⟨by omega, by omega⟩ | exact ⟨by omega, by omega, by omega⟩ | ((try simp only [decide_eq_true_eq, Bool.and_eq_true, ne_eq, decide_not, Bool.not_eq_true', Bool.not_eq_false', Bool.or_eq_false_iff, Bool.not_not, decide_eq_false_iff_not]); (try intro hh); (repeat' apply And.intro) <;> (first | omega | (simp only [inR]; omega) | assumption | exact hh.1 | exact hh.2 | exact hh.2.1 | exact hh.2.2 | exact hh.1.1 | exact hh.1.2 | (intro hq; exact ⟨hh, hq⟩) | (intro hq; exact ⟨hh.1, hq⟩) | (simp_all; done)))))
  refine hK1 _ ?_
  clear hK1
  refine W_seq (fun K2 hK2 => ?_)
  refine W_seq (fun K3 hK3 => ?_)
  refine W_region hT hG [] [0, 20] ?_
  rw [hnt]
  simp only [baseS, eq_self, implies_true, if_true, if_false, reduceIte, Nat.reduceBEq, Nat.reduceEqDiff, Nat.reduceLT, Nat.reduceAdd, reduceCtorEq, relC, callOK0, callOK1, fzE, c_spec_DrawTrimOfR, tyInt, tdInt, tyBool, tdBool, tyBytes, tdBytes, tyHull, tdHull, tyBoxes, tdBoxes, tyInts, tdInts, c_impl_LoadOf, c_laws_alive, c_impl_HeelOf, c_impl_TrimOf, c_spec_DrawTrimOf, c_spec_TrimOf, c_laws_turned, decide_false, room, Nat.reduceLeDiff, Nat.zero_le, storeAV, rowQ, ownInts, FT.of, FT.setf, elems, appAV_I, appI, srcI, ownI, anyI, sameR, appAV_P, appP, srcP, ownP, anyP, rowsAV, appAV, srcRows, srcFlat, reduceDIte, List.length_append, setAll, Option.isSome_some, List.drop_zero, Int.reduceToNat, List.set_cons_zero, List.set_cons_succ]
  repeat (refine And.intro ?_ ?_; focus (first | exact hpre.2 | (simp only [List.length_drop]; omega) | exact hb1 | exact ⟨hu.ship, hu.len⟩ | exact ⟨by omega, by rw [imgR_len]; omega⟩ | first | exact ordP (by kernel_rfl) | with_reducible exact rfl | assumption | trivial | (simp only [inR]; omega) | omega | exact ⟨by omega, by omega⟩ | exact ⟨by omega, by omega, by omega⟩ | ((try simp only [decide_eq_true_eq, Bool.and_eq_true, ne_eq, decide_not, Bool.not_eq_true', Bool.not_eq_false', Bool.or_eq_false_iff, Bool.not_not, decide_eq_false_iff_not]); (try intro hh); (repeat' apply And.intro) <;> (first | omega | (simp only [inR]; omega) | assumption | exact hh.1 | exact hh.2 | exact hh.2.1 | exact hh.2.2 | exact hh.1.1 | exact hh.1.2 | (intro hq; exact ⟨hh, hq⟩) | (intro hq; exact ⟨hh.1, hq⟩) | (simp_all; done)))))
  refine hK3 _ ?_
  clear hK3
  refine W_cond (b := _) rfl (fun hc4 => ?_) (fun hc4 => ?_)
  · try simp only [decide_eq_true_eq, decide_eq_false_iff_not, ne_eq, Decidable.not_not, Bool.not_eq_true', Bool.not_eq_false', Bool.or_eq_true, Bool.and_eq_true, Bool.or_eq_false_iff, Bool.and_eq_false_iff] at hc4
    refine W_seq (fun K5 hK5 => ?_)
    refine W_region hT hG [] [2] ?_
    rw [hnt]
    simp only [baseS, eq_self, implies_true, if_true, if_false, reduceIte, Nat.reduceBEq, Nat.reduceEqDiff, Nat.reduceLT, Nat.reduceAdd, reduceCtorEq, relC, callOK0, callOK1, fzE, c_spec_DrawTrimOfR, tyInt, tdInt, tyBool, tdBool, tyBytes, tdBytes, tyHull, tdHull, tyBoxes, tdBoxes, tyInts, tdInts, c_impl_LoadOf, c_laws_alive, c_impl_HeelOf, c_impl_TrimOf, c_spec_DrawTrimOf, c_spec_TrimOf, c_laws_turned, decide_false, room, Nat.reduceLeDiff, Nat.zero_le, storeAV, rowQ, ownInts, FT.of, FT.setf, elems, appAV_I, appI, srcI, ownI, anyI, sameR, appAV_P, appP, srcP, ownP, anyP, rowsAV, appAV, srcRows, srcFlat, reduceDIte, List.length_append, setAll, Option.isSome_some, List.drop_zero, Int.reduceToNat, List.set_cons_zero, List.set_cons_succ]
    repeat (refine And.intro ?_ ?_; focus (first | exact hpre.2 | (simp only [List.length_drop]; omega) | exact hb1 | exact ⟨hu.ship, hu.len⟩ | exact ⟨by omega, by rw [imgR_len]; omega⟩ | first | exact ordP (by kernel_rfl) | with_reducible exact rfl | assumption | trivial | (simp only [inR]; omega) | omega | exact ⟨by omega, by omega⟩ | exact ⟨by omega, by omega, by omega⟩ | ((try simp only [decide_eq_true_eq, Bool.and_eq_true, ne_eq, decide_not, Bool.not_eq_true', Bool.not_eq_false', Bool.or_eq_false_iff, Bool.not_not, decide_eq_false_iff_not]); (try intro hh); (repeat' apply And.intro) <;> (first | omega | (simp only [inR]; omega) | assumption | exact hh.1 | exact hh.2 | exact hh.2.1 | exact hh.2.2 | exact hh.1.1 | exact hh.1.2 | (intro hq; exact ⟨hh, hq⟩) | (intro hq; exact ⟨hh.1, hq⟩) | (simp_all; done)))))
    refine hK5 _ ?_
    clear hK5
    refine W_ret ?_
    simp only [thenQ, blockQ, loopQ, retQ, reduceIte, Nat.reduceEqDiff]
    refine ret0 ?_ rfl rfl (.inr rfl) rfl
    simp only [show Try.f7.results.toList = [ResultVar.tmp 2] from rfl, resAV, resL, look, Nat.reduceEqDiff, reduceIte, tyHull, tdHull, applyUps, noH, isStr, List.length_cons, List.length_nil, Nat.reduceAdd, and_self]
    all_goals (
      first | rfl | (refine congrArg (fun x => some (AV.bool x)) ?_; first | (rw [hno]; rfl) | (rw [hml.1, hml.2.1, hml.2.2, hv2]; simp; done) | (rw [hml.1, hml.2.1, hml.2.2, hv2, decide_eq_true hmo.1, decide_eq_true hmo.2.1]; simp; done) | (simp_all; done)) | skip)
  · try simp only [decide_eq_true_eq, decide_eq_false_iff_not, ne_eq, Decidable.not_not, Bool.not_eq_true', Bool.not_eq_false', Bool.or_eq_true, Bool.and_eq_true, Bool.or_eq_false_iff, Bool.and_eq_false_iff] at hc4
    refine W_skip ?_
    simp only [thenQ, blockQ, loopQ, reduceIte, Nat.reduceEqDiff]
    refine hK2 _ ?_
    clear hK2
    refine W_seq (fun K6 hK6 => ?_)
    refine W_region hT hG [] [3, 4, 5] ?_
    rw [hnt]
    simp only [baseS, eq_self, implies_true, if_true, if_false, reduceIte, Nat.reduceBEq, Nat.reduceEqDiff, Nat.reduceLT, Nat.reduceAdd, reduceCtorEq, relC, callOK0, callOK1, fzE, c_spec_DrawTrimOfR, tyInt, tdInt, tyBool, tdBool, tyBytes, tdBytes, tyHull, tdHull, tyBoxes, tdBoxes, tyInts, tdInts, c_impl_LoadOf, c_laws_alive, c_impl_HeelOf, c_impl_TrimOf, c_spec_DrawTrimOf, c_spec_TrimOf, c_laws_turned, decide_false, room, Nat.reduceLeDiff, Nat.zero_le, storeAV, rowQ, ownInts, FT.of, FT.setf, elems, appAV_I, appI, srcI, ownI, anyI, sameR, appAV_P, appP, srcP, ownP, anyP, rowsAV, appAV, srcRows, srcFlat, reduceDIte, List.length_append, setAll, Option.isSome_some, List.drop_zero, Int.reduceToNat, List.set_cons_zero, List.set_cons_succ]
    repeat (refine And.intro ?_ ?_; focus (first | exact hpre.2 | (simp only [List.length_drop]; omega) | exact hb1 | exact ⟨hu.ship, hu.len⟩ | exact ⟨by omega, by rw [imgR_len]; omega⟩ | first | exact ordP (by kernel_rfl) | with_reducible exact rfl | assumption | trivial | (simp only [inR]; omega) | omega | exact ⟨by omega, by omega⟩ | exact ⟨by omega, by omega, by omega⟩ | ((try simp only [decide_eq_true_eq, Bool.and_eq_true, ne_eq, decide_not, Bool.not_eq_true', Bool.not_eq_false', Bool.or_eq_false_iff, Bool.not_not, decide_eq_false_iff_not]); (try intro hh); (repeat' apply And.intro) <;> (first | omega | (simp only [inR]; omega) | assumption | exact hh.1 | exact hh.2 | exact hh.2.1 | exact hh.2.2 | exact hh.1.1 | exact hh.1.2 | (intro hq; exact ⟨hh, hq⟩) | (intro hq; exact ⟨hh.1, hq⟩) | (simp_all; done)))))
    rintro _ ⟨y1, y2, y3, bs, pl, rfl, hbl, hpl⟩
    have hb1 : bs.length ≤ 9223372036854775807 ∧ pl.length ≤ 9223372036854775807 := ⟨by omega, by omega⟩
    have hh := trimR_le y1 y2 y3 bs pl
    simp only [baseS, eq_self, implies_true, if_true, if_false, reduceIte, Nat.reduceBEq, Nat.reduceEqDiff, Nat.reduceLT, Nat.reduceAdd, reduceCtorEq, relC, callOK0, callOK1, fzE, c_spec_DrawTrimOfR, tyInt, tdInt, tyBool, tdBool, tyBytes, tdBytes, tyHull, tdHull, tyBoxes, tdBoxes, tyInts, tdInts, c_impl_LoadOf, c_laws_alive, c_impl_HeelOf, c_impl_TrimOf, c_spec_DrawTrimOf, c_spec_TrimOf, c_laws_turned, decide_false, room, Nat.reduceLeDiff, Nat.zero_le, storeAV, rowQ, ownInts, FT.of, FT.setf, elems, appAV_I, appI, srcI, ownI, anyI, sameR, appAV_P, appP, srcP, ownP, anyP, rowsAV, appAV, srcRows, srcFlat, reduceDIte, List.length_append, setAll, Option.isSome_some, List.drop_zero, Int.reduceToNat, List.set_cons_zero, List.set_cons_succ]
    repeat (refine And.intro ?_ ?_; focus (first | exact hpre.2 | (simp only [List.length_drop]; omega) | exact hb1 | exact ⟨hu.ship, hu.len⟩ | exact ⟨by omega, by rw [imgR_len]; omega⟩ | first | exact ordP (by kernel_rfl) | with_reducible exact rfl | assumption | trivial | (simp only [inR]; omega) | omega | exact ⟨by omega, by omega⟩ | exact ⟨by omega, by omega, by omega⟩ | ((try simp only [decide_eq_true_eq, Bool.and_eq_true, ne_eq, decide_not, Bool.not_eq_true', Bool.not_eq_false', Bool.or_eq_false_iff, Bool.not_not, decide_eq_false_iff_not]); (try intro hh); (repeat' apply And.intro) <;> (first | omega | (simp only [inR]; omega) | assumption | exact hh.1 | exact hh.2 | exact hh.2.1 | exact hh.2.2 | exact hh.1.1 | exact hh.1.2 | (intro hq; exact ⟨hh, hq⟩) | (intro hq; exact ⟨hh.1, hq⟩) | (simp_all; done)))))
    refine hK6 _ ?_
    clear hK6
    refine W_seq (fun K7 hK7 => ?_)
    refine W_region hT hG [] [3, 4, 5, 6, 7] ?_
    rw [hnt]
    simp only [baseS, eq_self, implies_true, if_true, if_false, reduceIte, Nat.reduceBEq, Nat.reduceEqDiff, Nat.reduceLT, Nat.reduceAdd, reduceCtorEq, relC, callOK0, callOK1, fzE, c_spec_DrawTrimOfR, tyInt, tdInt, tyBool, tdBool, tyBytes, tdBytes, tyHull, tdHull, tyBoxes, tdBoxes, tyInts, tdInts, c_impl_LoadOf, c_laws_alive, c_impl_HeelOf, c_impl_TrimOf, c_spec_DrawTrimOf, c_spec_TrimOf, c_laws_turned, decide_false, room, Nat.reduceLeDiff, Nat.zero_le, storeAV, rowQ, ownInts, FT.of, FT.setf, elems, appAV_I, appI, srcI, ownI, anyI, sameR, appAV_P, appP, srcP, ownP, anyP, rowsAV, appAV, srcRows, srcFlat, reduceDIte, List.length_append, setAll, Option.isSome_some, List.drop_zero, Int.reduceToNat, List.set_cons_zero, List.set_cons_succ]
    repeat (refine And.intro ?_ ?_; focus (first | exact hpre.2 | (simp only [List.length_drop]; omega) | exact hb1 | exact ⟨hu.ship, hu.len⟩ | exact ⟨by omega, by rw [imgR_len]; omega⟩ | first | exact ordP (by kernel_rfl) | with_reducible exact rfl | assumption | trivial | (simp only [inR]; omega) | omega | exact ⟨by omega, by omega⟩ | exact ⟨by omega, by omega, by omega⟩ | ((try simp only [decide_eq_true_eq, Bool.and_eq_true, ne_eq, decide_not, Bool.not_eq_true', Bool.not_eq_false', Bool.or_eq_false_iff, Bool.not_not, decide_eq_false_iff_not]); (try intro hh); (repeat' apply And.intro) <;> (first | omega | (simp only [inR]; omega) | assumption | exact hh.1 | exact hh.2 | exact hh.2.1 | exact hh.2.2 | exact hh.1.1 | exact hh.1.2 | (intro hq; exact ⟨hh, hq⟩) | (intro hq; exact ⟨hh.1, hq⟩) | (simp_all; done)))))
    refine hK7 _ ?_
    clear hK7
    refine W_seq (fun K8 hK8 => ?_)
    refine W_region hT hG [] [3, 4, 5, 6, 7, 8, 9] ?_
    rw [hnt]
    simp only [baseS, eq_self, implies_true, if_true, if_false, reduceIte, Nat.reduceBEq, Nat.reduceEqDiff, Nat.reduceLT, Nat.reduceAdd, reduceCtorEq, relC, callOK0, callOK1, fzE, c_spec_DrawTrimOfR, tyInt, tdInt, tyBool, tdBool, tyBytes, tdBytes, tyHull, tdHull, tyBoxes, tdBoxes, tyInts, tdInts, c_impl_LoadOf, c_laws_alive, c_impl_HeelOf, c_impl_TrimOf, c_spec_DrawTrimOf, c_spec_TrimOf, c_laws_turned, decide_false, room, Nat.reduceLeDiff, Nat.zero_le, storeAV, rowQ, ownInts, FT.of, FT.setf, elems, appAV_I, appI, srcI, ownI, anyI, sameR, appAV_P, appP, srcP, ownP, anyP, rowsAV, appAV, srcRows, srcFlat, reduceDIte, List.length_append, setAll, Option.isSome_some, List.drop_zero, Int.reduceToNat, List.set_cons_zero, List.set_cons_succ]
    repeat (refine And.intro ?_ ?_; focus (first | exact hpre.2 | (simp only [List.length_drop]; omega) | exact hb1 | exact ⟨hu.ship, hu.len⟩ | exact ⟨by omega, by rw [imgR_len]; omega⟩ | first | exact ordP (by kernel_rfl) | with_reducible exact rfl | assumption | trivial | (simp only [inR]; omega) | omega | exact ⟨by omega, by omega⟩ | exact ⟨by omega, by omega, by omega⟩ | ((try simp only [decide_eq_true_eq, Bool.and_eq_true, ne_eq, decide_not, Bool.not_eq_true', Bool.not_eq_false', Bool.or_eq_false_iff, Bool.not_not, decide_eq_false_iff_not]); (try intro hh); (repeat' apply And.intro) <;> (first | omega | (simp only [inR]; omega) | assumption | exact hh.1 | exact hh.2 | exact hh.2.1 | exact hh.2.2 | exact hh.1.1 | exact hh.1.2 | (intro hq; exact ⟨hh, hq⟩) | (intro hq; exact ⟨hh.1, hq⟩) | (simp_all; done)))))
    refine hK8 _ ?_
    clear hK8
    refine W_seq (fun K9 hK9 => ?_)
    refine W_seq (fun K10 hK10 => ?_)
    refine W_region hT hG [] [3, 4, 5, 6, 7, 48] ?_
    rw [hnt]
    simp only [baseS, eq_self, implies_true, if_true, if_false, reduceIte, Nat.reduceBEq, Nat.reduceEqDiff, Nat.reduceLT, Nat.reduceAdd, reduceCtorEq, relC, callOK0, callOK1, fzE, c_spec_DrawTrimOfR, tyInt, tdInt, tyBool, tdBool, tyBytes, tdBytes, tyHull, tdHull, tyBoxes, tdBoxes, tyInts, tdInts, c_impl_LoadOf, c_laws_alive, c_impl_HeelOf, c_impl_TrimOf, c_spec_DrawTrimOf, c_spec_TrimOf, c_laws_turned, decide_false, room, Nat.reduceLeDiff, Nat.zero_le, storeAV, rowQ, ownInts, FT.of, FT.setf, elems, appAV_I, appI, srcI, ownI, anyI, sameR, appAV_P, appP, srcP, ownP, anyP, rowsAV, appAV, srcRows, srcFlat, reduceDIte, List.length_append, setAll, Option.isSome_some, List.drop_zero, Int.reduceToNat, List.set_cons_zero, List.set_cons_succ]
    repeat (refine And.intro ?_ ?_; focus (first | exact hpre.2 | (simp only [List.length_drop]; omega) | exact hb1 | exact ⟨hu.ship, hu.len⟩ | exact ⟨by omega, by rw [imgR_len]; omega⟩ | first | exact ordP (by kernel_rfl) | with_reducible exact rfl | assumption | trivial | (simp only [inR]; omega) | omega | exact ⟨by omega, by omega⟩ | exact ⟨by omega, by omega, by omega⟩ | ((try simp only [decide_eq_true_eq, Bool.and_eq_true, ne_eq, decide_not, Bool.not_eq_true', Bool.not_eq_false', Bool.or_eq_false_iff, Bool.not_not, decide_eq_false_iff_not]); (try intro hh); (repeat' apply And.intro) <;> (first | omega | (simp only [inR]; omega) | assumption | exact hh.1 | exact hh.2 | exact hh.2.1 | exact hh.2.2 | exact hh.1.1 | exact hh.1.2 | (intro hq; exact ⟨hh, hq⟩) | (intro hq; exact ⟨hh.1, hq⟩) | (simp_all; done)))))
    refine hK10 _ ?_
    clear hK10
    refine W_cond (b := _) rfl (fun hc11 => ?_) (fun hc11 => ?_)
    · try simp only [decide_eq_true_eq, decide_eq_false_iff_not, ne_eq, Decidable.not_not, Bool.not_eq_true', Bool.not_eq_false', Bool.or_eq_true, Bool.and_eq_true, Bool.or_eq_false_iff, Bool.and_eq_false_iff] at hc11
      first | exact absurd rfl hc11 | (simp at hc11; done) | exact absurd trivial hc11
    · try simp only [decide_eq_true_eq, decide_eq_false_iff_not, ne_eq, Decidable.not_not, Bool.not_eq_true', Bool.not_eq_false', Bool.or_eq_true, Bool.and_eq_true, Bool.or_eq_false_iff, Bool.and_eq_false_iff] at hc11
      refine W_skip ?_
      simp only [thenQ, blockQ, loopQ, reduceIte, Nat.reduceEqDiff]
      refine hK9 _ ?_
      clear hK9
      refine W_seq (fun K12 hK12 => ?_)
      refine W_seq (fun K13 hK13 => ?_)
      refine W_region hT hG [] [3, 4, 5, 6, 50] ?_
      rw [hnt]
      simp only [baseS, eq_self, implies_true, if_true, if_false, reduceIte, Nat.reduceBEq, Nat.reduceEqDiff, Nat.reduceLT, Nat.reduceAdd, reduceCtorEq, relC, callOK0, callOK1, fzE, c_spec_DrawTrimOfR, tyInt, tdInt, tyBool, tdBool, tyBytes, tdBytes, tyHull, tdHull, tyBoxes, tdBoxes, tyInts, tdInts, c_impl_LoadOf, c_laws_alive, c_impl_HeelOf, c_impl_TrimOf, c_spec_DrawTrimOf, c_spec_TrimOf, c_laws_turned, decide_false, room, Nat.reduceLeDiff, Nat.zero_le, storeAV, rowQ, ownInts, FT.of, FT.setf, elems, appAV_I, appI, srcI, ownI, anyI, sameR, appAV_P, appP, srcP, ownP, anyP, rowsAV, appAV, srcRows, srcFlat, reduceDIte, List.length_append, setAll, Option.isSome_some, List.drop_zero, Int.reduceToNat, List.set_cons_zero, List.set_cons_succ]
      repeat (refine And.intro ?_ ?_; focus (first | exact hpre.2 | (simp only [List.length_drop]; omega) | exact hb1 | exact ⟨hu.ship, hu.len⟩ | exact ⟨by omega, by rw [imgR_len]; omega⟩ | first | exact ordP (by kernel_rfl) | with_reducible exact rfl | assumption | trivial | (simp only [inR]; omega) | omega | exact ⟨by omega, by omega⟩ | exact ⟨by omega, by omega, by omega⟩ | ((try simp only [decide_eq_true_eq, Bool.and_eq_true, ne_eq, decide_not, Bool.not_eq_true', Bool.not_eq_false', Bool.or_eq_false_iff, Bool.not_not, decide_eq_false_iff_not]); (try intro hh); (repeat' apply And.intro) <;> (first | omega | (simp only [inR]; omega) | assumption | exact hh.1 | exact hh.2 | exact hh.2.1 | exact hh.2.2 | exact hh.1.1 | exact hh.1.2 | (intro hq; exact ⟨hh, hq⟩) | (intro hq; exact ⟨hh.1, hq⟩) | (simp_all; done)))))
      refine hK13 _ ?_
      clear hK13
      refine W_cond (b := _) rfl (fun hc14 => ?_) (fun hc14 => ?_)
      · try simp only [decide_eq_true_eq, decide_eq_false_iff_not, ne_eq, Decidable.not_not, Bool.not_eq_true', Bool.not_eq_false', Bool.or_eq_true, Bool.and_eq_true, Bool.or_eq_false_iff, Bool.and_eq_false_iff] at hc14
        refine W_seq (fun K15 hK15 => ?_)
        refine W_region hT hG [] [2] ?_
        rw [hnt]
        have hno := trim_no (b := y1) (r := y2) (t := y3) (bs := bs) (p := pl) (by cases h : planB y1 y2 y3 bs pl <;> simp_all)
        simp only [baseS, eq_self, implies_true, if_true, if_false, reduceIte, Nat.reduceBEq, Nat.reduceEqDiff, Nat.reduceLT, Nat.reduceAdd, reduceCtorEq, relC, callOK0, callOK1, fzE, c_spec_DrawTrimOfR, tyInt, tdInt, tyBool, tdBool, tyBytes, tdBytes, tyHull, tdHull, tyBoxes, tdBoxes, tyInts, tdInts, c_impl_LoadOf, c_laws_alive, c_impl_HeelOf, c_impl_TrimOf, c_spec_DrawTrimOf, c_spec_TrimOf, c_laws_turned, decide_false, room, Nat.reduceLeDiff, Nat.zero_le, storeAV, rowQ, ownInts, FT.of, FT.setf, elems, appAV_I, appI, srcI, ownI, anyI, sameR, appAV_P, appP, srcP, ownP, anyP, rowsAV, appAV, srcRows, srcFlat, reduceDIte, List.length_append, setAll, Option.isSome_some, List.drop_zero, Int.reduceToNat, List.set_cons_zero, List.set_cons_succ]
        repeat (refine And.intro ?_ ?_; focus (first | exact hpre.2 | (simp only [List.length_drop]; omega) | exact hb1 | exact ⟨hu.ship, hu.len⟩ | exact ⟨by omega, by rw [imgR_len]; omega⟩ | first | exact ordP (by kernel_rfl) | with_reducible exact rfl | assumption | trivial | (simp only [inR]; omega) | omega | exact ⟨by omega, by omega⟩ | exact ⟨by omega, by omega, by omega⟩ | ((try simp only [decide_eq_true_eq, Bool.and_eq_true, ne_eq, decide_not, Bool.not_eq_true', Bool.not_eq_false', Bool.or_eq_false_iff, Bool.not_not, decide_eq_false_iff_not]); (try intro hh); (repeat' apply And.intro) <;> (first | omega | (simp only [inR]; omega) | assumption | exact hh.1 | exact hh.2 | exact hh.2.1 | exact hh.2.2 | exact hh.1.1 | exact hh.1.2 | (intro hq; exact ⟨hh, hq⟩) | (intro hq; exact ⟨hh.1, hq⟩) | (simp_all; done)))))
        refine hK15 _ ?_
        clear hK15
        refine W_ret ?_
        simp only [thenQ, blockQ, loopQ, retQ, reduceIte, Nat.reduceEqDiff]
        refine ret0 ?_ rfl rfl (.inr rfl) rfl
        simp only [show Try.f7.results.toList = [ResultVar.tmp 2] from rfl, resAV, resL, look, Nat.reduceEqDiff, reduceIte, tyHull, tdHull, applyUps, noH, isStr, List.length_cons, List.length_nil, Nat.reduceAdd, and_self]
        all_goals (
          first | rfl | (refine congrArg (fun x => some (AV.bool x)) ?_; first | (rw [hno]; rfl) | (rw [hml.1, hml.2.1, hml.2.2, hv2]; simp; done) | (rw [hml.1, hml.2.1, hml.2.2, hv2, decide_eq_true hmo.1, decide_eq_true hmo.2.1]; simp; done) | (simp_all; done)) | skip)
      · try simp only [decide_eq_true_eq, decide_eq_false_iff_not, ne_eq, Decidable.not_not, Bool.not_eq_true', Bool.not_eq_false', Bool.or_eq_true, Bool.and_eq_true, Bool.or_eq_false_iff, Bool.and_eq_false_iff] at hc14
        refine W_skip ?_
        simp only [thenQ, blockQ, loopQ, reduceIte, Nat.reduceEqDiff]
        refine hK12 _ ?_
        clear hK12
        refine W_seq (fun K16 hK16 => ?_)
        refine W_region hT hG [] [3, 4, 5, 6, 10] ?_
        rw [hnt]
        have hv2 : planB y1 y2 y3 bs pl = true := by cases h : planB y1 y2 y3 bs pl <;> simp_all
        have hu := planB_ok hv2
        have hml := trim_tur hv2
        have hmo := trim_most hv2
        have hmb := most_le hmo.2.2
        simp only [baseS, eq_self, implies_true, if_true, if_false, reduceIte, Nat.reduceBEq, Nat.reduceEqDiff, Nat.reduceLT, Nat.reduceAdd, reduceCtorEq, relC, callOK0, callOK1, fzE, c_spec_DrawTrimOfR, tyInt, tdInt, tyBool, tdBool, tyBytes, tdBytes, tyHull, tdHull, tyBoxes, tdBoxes, tyInts, tdInts, c_impl_LoadOf, c_laws_alive, c_impl_HeelOf, c_impl_TrimOf, c_spec_DrawTrimOf, c_spec_TrimOf, c_laws_turned, decide_false, room, Nat.reduceLeDiff, Nat.zero_le, storeAV, rowQ, ownInts, FT.of, FT.setf, elems, appAV_I, appI, srcI, ownI, anyI, sameR, appAV_P, appP, srcP, ownP, anyP, rowsAV, appAV, srcRows, srcFlat, reduceDIte, List.length_append, setAll, Option.isSome_some, List.drop_zero, Int.reduceToNat, List.set_cons_zero, List.set_cons_succ]
        repeat (refine And.intro ?_ ?_; focus (first | exact hpre.2 | (simp only [List.length_drop]; omega) | exact hb1 | exact ⟨hu.ship, hu.len⟩ | exact ⟨by omega, by rw [imgR_len]; omega⟩ | first | exact ordP (by kernel_rfl) | with_reducible exact rfl | assumption | trivial | (simp only [inR]; omega) | omega | exact ⟨by omega, by omega⟩ | exact ⟨by omega, by omega, by omega⟩ | ((try simp only [decide_eq_true_eq, Bool.and_eq_true, ne_eq, decide_not, Bool.not_eq_true', Bool.not_eq_false', Bool.or_eq_false_iff, Bool.not_not, decide_eq_false_iff_not]); (try intro hh); (repeat' apply And.intro) <;> (first | omega | (simp only [inR]; omega) | assumption | exact hh.1 | exact hh.2 | exact hh.2.1 | exact hh.2.2 | exact hh.1.1 | exact hh.1.2 | (intro hq; exact ⟨hh, hq⟩) | (intro hq; exact ⟨hh.1, hq⟩) | (simp_all; done)))))
        refine hK16 _ ?_
        clear hK16
        refine W_seq (fun K17 hK17 => ?_)
        refine W_region hT hG [] [3, 4, 5, 6, 10, 11, 12] ?_
        rw [hnt]
        simp only [baseS, eq_self, implies_true, if_true, if_false, reduceIte, Nat.reduceBEq, Nat.reduceEqDiff, Nat.reduceLT, Nat.reduceAdd, reduceCtorEq, relC, callOK0, callOK1, fzE, c_spec_DrawTrimOfR, tyInt, tdInt, tyBool, tdBool, tyBytes, tdBytes, tyHull, tdHull, tyBoxes, tdBoxes, tyInts, tdInts, c_impl_LoadOf, c_laws_alive, c_impl_HeelOf, c_impl_TrimOf, c_spec_DrawTrimOf, c_spec_TrimOf, c_laws_turned, decide_false, room, Nat.reduceLeDiff, Nat.zero_le, storeAV, rowQ, ownInts, FT.of, FT.setf, elems, appAV_I, appI, srcI, ownI, anyI, sameR, appAV_P, appP, srcP, ownP, anyP, rowsAV, appAV, srcRows, srcFlat, reduceDIte, List.length_append, setAll, Option.isSome_some, List.drop_zero, Int.reduceToNat, List.set_cons_zero, List.set_cons_succ]
        repeat (refine And.intro ?_ ?_; focus (first | exact hpre.2 | (simp only [List.length_drop]; omega) | exact hb1 | exact ⟨hu.ship, hu.len⟩ | exact ⟨by omega, by rw [imgR_len]; omega⟩ | first | exact ordP (by kernel_rfl) | with_reducible exact rfl | assumption | trivial | (simp only [inR]; omega) | omega | exact ⟨by omega, by omega⟩ | exact ⟨by omega, by omega, by omega⟩ | ((try simp only [decide_eq_true_eq, Bool.and_eq_true, ne_eq, decide_not, Bool.not_eq_true', Bool.not_eq_false', Bool.or_eq_false_iff, Bool.not_not, decide_eq_false_iff_not]); (try intro hh); (repeat' apply And.intro) <;> (first | omega | (simp only [inR]; omega) | assumption | exact hh.1 | exact hh.2 | exact hh.2.1 | exact hh.2.2 | exact hh.1.1 | exact hh.1.2 | (intro hq; exact ⟨hh, hq⟩) | (intro hq; exact ⟨hh.1, hq⟩) | (simp_all; done)))))
        refine hK17 _ ?_
        clear hK17
        refine W_seq (fun K18 hK18 => ?_)
        refine W_region hT hG [] [3, 4, 5, 6, 11, 12, 13, 14] ?_
        rw [hnt]
        simp only [baseS, eq_self, implies_true, if_true, if_false, reduceIte, Nat.reduceBEq, Nat.reduceEqDiff, Nat.reduceLT, Nat.reduceAdd, reduceCtorEq, relC, callOK0, callOK1, fzE, c_spec_DrawTrimOfR, tyInt, tdInt, tyBool, tdBool, tyBytes, tdBytes, tyHull, tdHull, tyBoxes, tdBoxes, tyInts, tdInts, c_impl_LoadOf, c_laws_alive, c_impl_HeelOf, c_impl_TrimOf, c_spec_DrawTrimOf, c_spec_TrimOf, c_laws_turned, decide_false, room, Nat.reduceLeDiff, Nat.zero_le, storeAV, rowQ, ownInts, FT.of, FT.setf, elems, appAV_I, appI, srcI, ownI, anyI, sameR, appAV_P, appP, srcP, ownP, anyP, rowsAV, appAV, srcRows, srcFlat, reduceDIte, List.length_append, setAll, Option.isSome_some, List.drop_zero, Int.reduceToNat, List.set_cons_zero, List.set_cons_succ]
        repeat (refine And.intro ?_ ?_; focus (first | exact hpre.2 | (simp only [List.length_drop]; omega) | exact hb1 | exact ⟨hu.ship, hu.len⟩ | exact ⟨by omega, by rw [imgR_len]; omega⟩ | first | exact ordP (by kernel_rfl) | with_reducible exact rfl | assumption | trivial | (simp only [inR]; omega) | omega | exact ⟨by omega, by omega⟩ | exact ⟨by omega, by omega, by omega⟩ | ((try simp only [decide_eq_true_eq, Bool.and_eq_true, ne_eq, decide_not, Bool.not_eq_true', Bool.not_eq_false', Bool.or_eq_false_iff, Bool.not_not, decide_eq_false_iff_not]); (try intro hh); (repeat' apply And.intro) <;> (first | omega | (simp only [inR]; omega) | assumption | exact hh.1 | exact hh.2 | exact hh.2.1 | exact hh.2.2 | exact hh.1.1 | exact hh.1.2 | (intro hq; exact ⟨hh, hq⟩) | (intro hq; exact ⟨hh.1, hq⟩) | (simp_all; done)))))
        refine hK18 _ ?_
        clear hK18
        refine W_seq (fun K19 hK19 => ?_)
        refine W_region hT hG [] [3, 4, 5, 6, 11, 12, 13, 14, 15, 16] ?_
        rw [hnt]
        simp only [baseS, eq_self, implies_true, if_true, if_false, reduceIte, Nat.reduceBEq, Nat.reduceEqDiff, Nat.reduceLT, Nat.reduceAdd, reduceCtorEq, relC, callOK0, callOK1, fzE, c_spec_DrawTrimOfR, tyInt, tdInt, tyBool, tdBool, tyBytes, tdBytes, tyHull, tdHull, tyBoxes, tdBoxes, tyInts, tdInts, c_impl_LoadOf, c_laws_alive, c_impl_HeelOf, c_impl_TrimOf, c_spec_DrawTrimOf, c_spec_TrimOf, c_laws_turned, decide_false, room, Nat.reduceLeDiff, Nat.zero_le, storeAV, rowQ, ownInts, FT.of, FT.setf, elems, appAV_I, appI, srcI, ownI, anyI, sameR, appAV_P, appP, srcP, ownP, anyP, rowsAV, appAV, srcRows, srcFlat, reduceDIte, List.length_append, setAll, Option.isSome_some, List.drop_zero, Int.reduceToNat, List.set_cons_zero, List.set_cons_succ]
        repeat (refine And.intro ?_ ?_; focus (first | exact hpre.2 | (simp only [List.length_drop]; omega) | exact hb1 | exact ⟨hu.ship, hu.len⟩ | exact ⟨by omega, by rw [imgR_len]; omega⟩ | first | exact ordP (by kernel_rfl) | with_reducible exact rfl | assumption | trivial | (simp only [inR]; omega) | omega | exact ⟨by omega, by omega⟩ | exact ⟨by omega, by omega, by omega⟩ | ((try simp only [decide_eq_true_eq, Bool.and_eq_true, ne_eq, decide_not, Bool.not_eq_true', Bool.not_eq_false', Bool.or_eq_false_iff, Bool.not_not, decide_eq_false_iff_not]); (try intro hh); (repeat' apply And.intro) <;> (first | omega | (simp only [inR]; omega) | assumption | exact hh.1 | exact hh.2 | exact hh.2.1 | exact hh.2.2 | exact hh.1.1 | exact hh.1.2 | (intro hq; exact ⟨hh, hq⟩) | (intro hq; exact ⟨hh.1, hq⟩) | (simp_all; done)))))
        refine hK19 _ ?_
        clear hK19
        refine W_seq (fun K20 hK20 => ?_)
        refine W_region_draw hT hG (by rw [hP]; exact draws_ok) [] [6, 11, 12, 13, 14, 15, 16, 17] ?_
        rw [hnt]
        simp only [baseS, eq_self, implies_true, if_true, if_false, reduceIte, Nat.reduceBEq, Nat.reduceEqDiff, Nat.reduceLT, Nat.reduceAdd, reduceCtorEq, relC, callOK0, callOK1, fzE, c_spec_DrawTrimOfR, tyInt, tdInt, tyBool, tdBool, tyBytes, tdBytes, tyHull, tdHull, tyBoxes, tdBoxes, tyInts, tdInts, c_impl_LoadOf, c_laws_alive, c_impl_HeelOf, c_impl_TrimOf, c_spec_DrawTrimOf, c_spec_TrimOf, c_laws_turned, decide_false, room, Nat.reduceLeDiff, Nat.zero_le, storeAV, rowQ, ownInts, FT.of, FT.setf, elems, appAV_I, appI, srcI, ownI, anyI, sameR, appAV_P, appP, srcP, ownP, anyP, rowsAV, appAV, srcRows, srcFlat, reduceDIte, List.length_append, setAll, Option.isSome_some, List.drop_zero, Int.reduceToNat, List.set_cons_zero, List.set_cons_succ]
        repeat (refine And.intro ?_ ?_; focus (first | exact hpre.2 | (simp only [List.length_drop]; omega) | exact hb1 | exact ⟨hu.ship, hu.len⟩ | exact ⟨by omega, by rw [imgR_len]; omega⟩ | first | exact ordP (by kernel_rfl) | with_reducible exact rfl | assumption | trivial | (simp only [inR]; omega) | omega | exact ⟨by omega, by omega⟩ | exact ⟨by omega, by omega, by omega⟩ | ((try simp only [decide_eq_true_eq, Bool.and_eq_true, ne_eq, decide_not, Bool.not_eq_true', Bool.not_eq_false', Bool.or_eq_false_iff, Bool.not_not, decide_eq_false_iff_not]); (try intro hh); (repeat' apply And.intro) <;> (first | omega | (simp only [inR]; omega) | assumption | exact hh.1 | exact hh.2 | exact hh.2.1 | exact hh.2.2 | exact hh.1.1 | exact hh.1.2 | (intro hq; exact ⟨hh, hq⟩) | (intro hq; exact ⟨hh.1, hq⟩) | (simp_all; done)))))
        refine hK20 _ ?_
        clear hK20
        refine W_seq (fun K21 hK21 => ?_)
        refine W_region hT hG [] [2] ?_
        rw [hnt]
        simp only [baseS, eq_self, implies_true, if_true, if_false, reduceIte, Nat.reduceBEq, Nat.reduceEqDiff, Nat.reduceLT, Nat.reduceAdd, reduceCtorEq, relC, callOK0, callOK1, fzE, c_spec_DrawTrimOfR, tyInt, tdInt, tyBool, tdBool, tyBytes, tdBytes, tyHull, tdHull, tyBoxes, tdBoxes, tyInts, tdInts, c_impl_LoadOf, c_laws_alive, c_impl_HeelOf, c_impl_TrimOf, c_spec_DrawTrimOf, c_spec_TrimOf, c_laws_turned, decide_false, room, Nat.reduceLeDiff, Nat.zero_le, storeAV, rowQ, ownInts, FT.of, FT.setf, elems, appAV_I, appI, srcI, ownI, anyI, sameR, appAV_P, appP, srcP, ownP, anyP, rowsAV, appAV, srcRows, srcFlat, reduceDIte, List.length_append, setAll, Option.isSome_some, List.drop_zero, Int.reduceToNat, List.set_cons_zero, List.set_cons_succ]
        repeat (refine And.intro ?_ ?_; focus (first | exact hpre.2 | (simp only [List.length_drop]; omega) | exact hb1 | exact ⟨hu.ship, hu.len⟩ | exact ⟨by omega, by rw [imgR_len]; omega⟩ | first | exact ordP (by kernel_rfl) | with_reducible exact rfl | assumption | trivial | (simp only [inR]; omega) | omega | exact ⟨by omega, by omega⟩ | exact ⟨by omega, by omega, by omega⟩ | ((try simp only [decide_eq_true_eq, Bool.and_eq_true, ne_eq, decide_not, Bool.not_eq_true', Bool.not_eq_false', Bool.or_eq_false_iff, Bool.not_not, decide_eq_false_iff_not]); (try intro hh); (repeat' apply And.intro) <;> (first | omega | (simp only [inR]; omega) | assumption | exact hh.1 | exact hh.2 | exact hh.2.1 | exact hh.2.2 | exact hh.1.1 | exact hh.1.2 | (intro hq; exact ⟨hh, hq⟩) | (intro hq; exact ⟨hh.1, hq⟩) | (simp_all; done)))))
        refine hK21 _ ?_
        clear hK21
        refine W_ret ?_
        simp only [thenQ, blockQ, loopQ, retQ, reduceIte, Nat.reduceEqDiff]
        refine ret0 ?_ rfl rfl (.inr rfl) rfl
        simp only [show Try.f7.results.toList = [ResultVar.tmp 2] from rfl, resAV, resL, look, Nat.reduceEqDiff, reduceIte, tyHull, tdHull, applyUps, noH, isStr, List.length_cons, List.length_nil, Nat.reduceAdd, and_self]
        all_goals (
          first | rfl | (refine congrArg (fun x => some (AV.bool x)) ?_; first | (rw [hno]; rfl) | (rw [hml.1, hml.2.1, hml.2.2, hv2]; simp; done) | (rw [hml.1, hml.2.1, hml.2.2, hv2, decide_eq_true hmo.1, decide_eq_true hmo.2.1]; simp; done) | (simp_all; done)) | skip)

end Go.Proofs.Ytjkghldkemoddaa
