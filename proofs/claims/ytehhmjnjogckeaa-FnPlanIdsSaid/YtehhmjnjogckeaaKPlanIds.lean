/- Walk over the law laws.FnPlanIds. No condition. -/
import Derived.Test.YtehhmjnjogckeaaDrawP
import Derived.Test.YtehhmjnjogckeaaFind
import Derived.Test.YtehhmjnjogckeaaOkLoad
import Derived.Test.YtehhmjnjogckeaaAlive
import Derived.Test.YtehhmjnjogckeaaTopU
namespace Go.Proofs.Ytehhmjnjogckeaa
open Go
set_option linter.unusedVariables false
set_option linter.unusedSimpArgs false

theorem ids_len2 (b r t : Int) (bs : List BoxD) (p : List Int) : (idsR b r t bs p).length ≤ p.length := by
  unfold idsR; split
  · rw [idsTo_len]; exact selTo_len _ _
  · simp
theorem ids_facts {b r t : Int} {bs : List BoxD} {p : List Int} {k : Nat} (h : k < (idsR b r t bs p).length) :
    (idsR b r t bs p).getD k 0 ∉ (idsR b r t bs p).take k ∧ 0 ≤ findB bs ((idsR b r t bs p).getD k 0) ∧ 0 ≤ findP b r t bs p ((idsR b r t bs p).getD k 0) := by
  by_cases hp : planB b r t bs p = true
  · have hok := planB_ok hp
    have e : idsR b r t bs p = idsTo p p.length := by rw [idsR, if_pos hp]
    rw [e] at h ⊢
    have hnd := ids_uniq hok p.length (Nat.le_refl _)
    refine ⟨nodup_take hnd h, ?_⟩
    obtain ⟨j, hj, ej, h0⟩ := idsTo_mem.1 (getD_mem h)
    rw [← ej] at h0 ⊢
    refine ⟨by rw [findB, if_pos hok.boxes]; exact (hok.box h0).2, by rw [hok.at hj h0]; omega⟩
  · rw [idsR, if_neg hp] at h; simp at h

def c_laws_FnPlanIds : Ctr where
  modes := [.v (.r .u8)]
  al := false
  run := fun xs os => match xs, os with
    | [.rs .u8 b], [] => some ⟨b.length ≤ 9223372036854775807 ∧ ∀ x ∈ b, 0 ≤ x ∧ x ≤ 255, .bool true, [], []⟩
    | _, _ => none
theorem m_laws_FnPlanIds : Meets Try.prog 9 c_laws_FnPlanIds := by
  refine meets_of (T := tyT) tyOK Try.func9 (by rfl) rfl (by decide) ?_
  intro args owns R hrun hpre
  simp only [c_laws_FnPlanIds] at hrun
  split at hrun
  case h_2 => cases hrun
  rename_i b
  cases hrun
  try dsimp only at hpre
  refine ⟨_, rfl, fun E hP hnt hnp => ?_⟩
  replace hnt : E.nt = 63 := hnt
  replace hnp : E.np = 1 := hnp
  have hT : ∀ t d, tyT t = some d → TyOK E.P t d := hP ▸ tyOK
  have hG : ∀ f C, Γof [(38, c_impl_PlanFind), (40, c_laws_hasInt), (41, c_impl_PlanIds), (42, c_laws_alive), (43, c_spec_DrawPlanIds), (44, c_laws_sameInts), (45, c_spec_PlanIds), (46, c_impl_FindBox)] f = some C → Meets E.P f C := hΓof (by rw [hP]; exact ⟨m_impl_PlanFind, m_laws_hasInt, m_impl_PlanIds, m_laws_alive, m_spec_DrawPlanIds, m_laws_sameInts, m_spec_PlanIds, m_impl_FindBox, trivial⟩)
  try simp only [show Try.f9.ntmps = 63 from rfl]
  refine W_seq (fun K1 hK1 => ?_)
  refine W_region hT hG [] [0] ?_
  rw [hnt]
  simp only [baseS, eq_self, implies_true, if_true, if_false, reduceIte, Nat.reduceBEq, Nat.reduceEqDiff, Nat.reduceLT, Nat.reduceAdd, reduceCtorEq, relC, callOK0, callOK1, fzE, c_spec_DrawPlanIdsR, tyInt, tdInt, tyInts, tdInts, tyHull, tdHull, tyBoxes, tdBoxes, tyBytes, tdBytes, c_impl_PlanFind, c_laws_hasInt, c_impl_PlanIds, c_laws_alive, c_spec_DrawPlanIds, c_laws_sameInts, c_spec_PlanIds, c_impl_FindBox, decide_false, room, Nat.reduceLeDiff, Nat.zero_le, storeAV, rowQ, ownInts, FT.of, FT.setf, elems, appAV_I, appI, srcI, ownI, anyI, sameR, appAV_P, appP, srcP, ownP, anyP, rowsAV, appAV, srcRows, srcFlat, reduceDIte, List.length_append, setAll, Option.isSome_some, List.drop_zero, Int.reduceToNat, Int.toNat_natCast]
  repeat (refine And.intro ?_ ?_; focus (first | exact hpre.2 | (simp only [List.length_drop]; omega) | exact hb1 | first | exact ordP (by kernel_rfl) | with_reducible exact rfl | assumption | trivial | (simp only [inR]; omega) | omega | exact ⟨by omega, by omega⟩ | exact ⟨by omega, by omega, by omega⟩ | exact ⟨by omega, by omega, by omega⟩ | exact ⟨⟨by omega, by omega⟩, by omega⟩ | ((try simp only [decide_eq_true_eq, Bool.and_eq_true, ne_eq, decide_not, Bool.not_eq_true', Bool.not_eq_false', Bool.or_eq_false_iff, Bool.not_not, decide_eq_false_iff_not]); (try intro hh); (repeat' apply And.intro) <;> (first | omega | (simp only [inR]; omega) | assumption | exact ⟨by omega, by omega, by omega⟩ | exact ⟨⟨by omega, by omega⟩, by omega⟩ | exact hh.1 | exact hh.2 | exact hh.2.1 | exact hh.2.2 | exact hh.1.1 | exact hh.1.2 | (intro hq; exact ⟨hh, hq⟩) | (intro hq; exact ⟨hh.1, hq⟩) | (simp_all; done)))))
  refine hK1 _ ?_
  clear hK1
  refine W_seq (fun K2 hK2 => ?_)
  refine W_seq (fun K3 hK3 => ?_)
  refine W_region hT hG [] [0, 10] ?_
  rw [hnt]
  simp only [baseS, eq_self, implies_true, if_true, if_false, reduceIte, Nat.reduceBEq, Nat.reduceEqDiff, Nat.reduceLT, Nat.reduceAdd, reduceCtorEq, relC, callOK0, callOK1, fzE, c_spec_DrawPlanIdsR, tyInt, tdInt, tyInts, tdInts, tyHull, tdHull, tyBoxes, tdBoxes, tyBytes, tdBytes, c_impl_PlanFind, c_laws_hasInt, c_impl_PlanIds, c_laws_alive, c_spec_DrawPlanIds, c_laws_sameInts, c_spec_PlanIds, c_impl_FindBox, decide_false, room, Nat.reduceLeDiff, Nat.zero_le, storeAV, rowQ, ownInts, FT.of, FT.setf, elems, appAV_I, appI, srcI, ownI, anyI, sameR, appAV_P, appP, srcP, ownP, anyP, rowsAV, appAV, srcRows, srcFlat, reduceDIte, List.length_append, setAll, Option.isSome_some, List.drop_zero, Int.reduceToNat, Int.toNat_natCast]
  repeat (refine And.intro ?_ ?_; focus (first | exact hpre.2 | (simp only [List.length_drop]; omega) | exact hb1 | first | exact ordP (by kernel_rfl) | with_reducible exact rfl | assumption | trivial | (simp only [inR]; omega) | omega | exact ⟨by omega, by omega⟩ | exact ⟨by omega, by omega, by omega⟩ | exact ⟨by omega, by omega, by omega⟩ | exact ⟨⟨by omega, by omega⟩, by omega⟩ | ((try simp only [decide_eq_true_eq, Bool.and_eq_true, ne_eq, decide_not, Bool.not_eq_true', Bool.not_eq_false', Bool.or_eq_false_iff, Bool.not_not, decide_eq_false_iff_not]); (try intro hh); (repeat' apply And.intro) <;> (first | omega | (simp only [inR]; omega) | assumption | exact ⟨by omega, by omega, by omega⟩ | exact ⟨⟨by omega, by omega⟩, by omega⟩ | exact hh.1 | exact hh.2 | exact hh.2.1 | exact hh.2.2 | exact hh.1.1 | exact hh.1.2 | (intro hq; exact ⟨hh, hq⟩) | (intro hq; exact ⟨hh.1, hq⟩) | (simp_all; done)))))
  refine hK3 _ ?_
  clear hK3
  refine W_cond (b := _) rfl (fun hc4 => ?_) (fun hc4 => ?_)
  · try simp only [decide_eq_true_eq, decide_eq_false_iff_not, ne_eq, Decidable.not_not, Bool.not_eq_true', Bool.not_eq_false', Bool.or_eq_true, Bool.and_eq_true, Bool.or_eq_false_iff, Bool.and_eq_false_iff] at hc4
    refine W_seq (fun K5 hK5 => ?_)
    refine W_region hT hG [] [2] ?_
    rw [hnt]
    simp only [baseS, eq_self, implies_true, if_true, if_false, reduceIte, Nat.reduceBEq, Nat.reduceEqDiff, Nat.reduceLT, Nat.reduceAdd, reduceCtorEq, relC, callOK0, callOK1, fzE, c_spec_DrawPlanIdsR, tyInt, tdInt, tyInts, tdInts, tyHull, tdHull, tyBoxes, tdBoxes, tyBytes, tdBytes, c_impl_PlanFind, c_laws_hasInt, c_impl_PlanIds, c_laws_alive, c_spec_DrawPlanIds, c_laws_sameInts, c_spec_PlanIds, c_impl_FindBox, decide_false, room, Nat.reduceLeDiff, Nat.zero_le, storeAV, rowQ, ownInts, FT.of, FT.setf, elems, appAV_I, appI, srcI, ownI, anyI, sameR, appAV_P, appP, srcP, ownP, anyP, rowsAV, appAV, srcRows, srcFlat, reduceDIte, List.length_append, setAll, Option.isSome_some, List.drop_zero, Int.reduceToNat, Int.toNat_natCast]
    repeat (refine And.intro ?_ ?_; focus (first | exact hpre.2 | (simp only [List.length_drop]; omega) | exact hb1 | first | exact ordP (by kernel_rfl) | with_reducible exact rfl | assumption | trivial | (simp only [inR]; omega) | omega | exact ⟨by omega, by omega⟩ | exact ⟨by omega, by omega, by omega⟩ | exact ⟨by omega, by omega, by omega⟩ | exact ⟨⟨by omega, by omega⟩, by omega⟩ | ((try simp only [decide_eq_true_eq, Bool.and_eq_true, ne_eq, decide_not, Bool.not_eq_true', Bool.not_eq_false', Bool.or_eq_false_iff, Bool.not_not, decide_eq_false_iff_not]); (try intro hh); (repeat' apply And.intro) <;> (first | omega | (simp only [inR]; omega) | assumption | exact ⟨by omega, by omega, by omega⟩ | exact ⟨⟨by omega, by omega⟩, by omega⟩ | exact hh.1 | exact hh.2 | exact hh.2.1 | exact hh.2.2 | exact hh.1.1 | exact hh.1.2 | (intro hq; exact ⟨hh, hq⟩) | (intro hq; exact ⟨hh.1, hq⟩) | (simp_all; done)))))
    refine hK5 _ ?_
    clear hK5
    refine W_ret ?_
    simp only [thenQ, blockQ, loopQ, retQ, reduceIte, Nat.reduceEqDiff]
    refine ret0 ?_ rfl rfl (.inr rfl) rfl
    simp only [show Try.f9.results.toList = [ResultVar.tmp 2] from rfl, resAV, resL, look, Nat.reduceEqDiff, reduceIte, tyHull, tdHull, applyUps, noH, isStr, List.length_cons, List.length_nil, Nat.reduceAdd, and_self]
    all_goals (
      first | rfl | skip)
  · try simp only [decide_eq_true_eq, decide_eq_false_iff_not, ne_eq, Decidable.not_not, Bool.not_eq_true', Bool.not_eq_false', Bool.or_eq_true, Bool.and_eq_true, Bool.or_eq_false_iff, Bool.and_eq_false_iff] at hc4
    refine W_skip ?_
    simp only [thenQ, blockQ, loopQ, reduceIte, Nat.reduceEqDiff]
    refine hK2 _ ?_
    clear hK2
    refine W_seq (fun K6 hK6 => ?_)
    refine W_region hT hG [] [3, 4, 5] ?_
    rw [hnt]
    simp only [baseS, eq_self, implies_true, if_true, if_false, reduceIte, Nat.reduceBEq, Nat.reduceEqDiff, Nat.reduceLT, Nat.reduceAdd, reduceCtorEq, relC, callOK0, callOK1, fzE, c_spec_DrawPlanIdsR, tyInt, tdInt, tyInts, tdInts, tyHull, tdHull, tyBoxes, tdBoxes, tyBytes, tdBytes, c_impl_PlanFind, c_laws_hasInt, c_impl_PlanIds, c_laws_alive, c_spec_DrawPlanIds, c_laws_sameInts, c_spec_PlanIds, c_impl_FindBox, decide_false, room, Nat.reduceLeDiff, Nat.zero_le, storeAV, rowQ, ownInts, FT.of, FT.setf, elems, appAV_I, appI, srcI, ownI, anyI, sameR, appAV_P, appP, srcP, ownP, anyP, rowsAV, appAV, srcRows, srcFlat, reduceDIte, List.length_append, setAll, Option.isSome_some, List.drop_zero, Int.reduceToNat, Int.toNat_natCast]
    repeat (refine And.intro ?_ ?_; focus (first | exact hpre.2 | (simp only [List.length_drop]; omega) | exact hb1 | first | exact ordP (by kernel_rfl) | with_reducible exact rfl | assumption | trivial | (simp only [inR]; omega) | omega | exact ⟨by omega, by omega⟩ | exact ⟨by omega, by omega, by omega⟩ | exact ⟨by omega, by omega, by omega⟩ | exact ⟨⟨by omega, by omega⟩, by omega⟩ | ((try simp only [decide_eq_true_eq, Bool.and_eq_true, ne_eq, decide_not, Bool.not_eq_true', Bool.not_eq_false', Bool.or_eq_false_iff, Bool.not_not, decide_eq_false_iff_not]); (try intro hh); (repeat' apply And.intro) <;> (first | omega | (simp only [inR]; omega) | assumption | exact ⟨by omega, by omega, by omega⟩ | exact ⟨⟨by omega, by omega⟩, by omega⟩ | exact hh.1 | exact hh.2 | exact hh.2.1 | exact hh.2.2 | exact hh.1.1 | exact hh.1.2 | (intro hq; exact ⟨hh, hq⟩) | (intro hq; exact ⟨hh.1, hq⟩) | (simp_all; done)))))
    rintro _ ⟨y1, y2, y3, bs, pl, rfl, hbl, hpl⟩
    have hb1 : bs.length ≤ 9223372036854775807 ∧ pl.length ≤ 9223372036854775807 := ⟨by omega, by omega⟩
    have hil := ids_len2 y1 y2 y3 bs pl
    simp only [baseS, eq_self, implies_true, if_true, if_false, reduceIte, Nat.reduceBEq, Nat.reduceEqDiff, Nat.reduceLT, Nat.reduceAdd, reduceCtorEq, relC, callOK0, callOK1, fzE, c_spec_DrawPlanIdsR, tyInt, tdInt, tyInts, tdInts, tyHull, tdHull, tyBoxes, tdBoxes, tyBytes, tdBytes, c_impl_PlanFind, c_laws_hasInt, c_impl_PlanIds, c_laws_alive, c_spec_DrawPlanIds, c_laws_sameInts, c_spec_PlanIds, c_impl_FindBox, decide_false, room, Nat.reduceLeDiff, Nat.zero_le, storeAV, rowQ, ownInts, FT.of, FT.setf, elems, appAV_I, appI, srcI, ownI, anyI, sameR, appAV_P, appP, srcP, ownP, anyP, rowsAV, appAV, srcRows, srcFlat, reduceDIte, List.length_append, setAll, Option.isSome_some, List.drop_zero, Int.reduceToNat, Int.toNat_natCast]
    repeat (refine And.intro ?_ ?_; focus (first | exact hpre.2 | (simp only [List.length_drop]; omega) | exact hb1 | first | exact ordP (by kernel_rfl) | with_reducible exact rfl | assumption | trivial | (simp only [inR]; omega) | omega | exact ⟨by omega, by omega⟩ | exact ⟨by omega, by omega, by omega⟩ | exact ⟨by omega, by omega, by omega⟩ | exact ⟨⟨by omega, by omega⟩, by omega⟩ | ((try simp only [decide_eq_true_eq, Bool.and_eq_true, ne_eq, decide_not, Bool.not_eq_true', Bool.not_eq_false', Bool.or_eq_false_iff, Bool.not_not, decide_eq_false_iff_not]); (try intro hh); (repeat' apply And.intro) <;> (first | omega | (simp only [inR]; omega) | assumption | exact ⟨by omega, by omega, by omega⟩ | exact ⟨⟨by omega, by omega⟩, by omega⟩ | exact hh.1 | exact hh.2 | exact hh.2.1 | exact hh.2.2 | exact hh.1.1 | exact hh.1.2 | (intro hq; exact ⟨hh, hq⟩) | (intro hq; exact ⟨hh.1, hq⟩) | (simp_all; done)))))
    refine hK6 _ ?_
    clear hK6
    refine W_seq (fun K7 hK7 => ?_)
    refine W_region hT hG [] [3, 4, 5, 6] ?_
    rw [hnt]
    simp only [baseS, eq_self, implies_true, if_true, if_false, reduceIte, Nat.reduceBEq, Nat.reduceEqDiff, Nat.reduceLT, Nat.reduceAdd, reduceCtorEq, relC, callOK0, callOK1, fzE, c_spec_DrawPlanIdsR, tyInt, tdInt, tyInts, tdInts, tyHull, tdHull, tyBoxes, tdBoxes, tyBytes, tdBytes, c_impl_PlanFind, c_laws_hasInt, c_impl_PlanIds, c_laws_alive, c_spec_DrawPlanIds, c_laws_sameInts, c_spec_PlanIds, c_impl_FindBox, decide_false, room, Nat.reduceLeDiff, Nat.zero_le, storeAV, rowQ, ownInts, FT.of, FT.setf, elems, appAV_I, appI, srcI, ownI, anyI, sameR, appAV_P, appP, srcP, ownP, anyP, rowsAV, appAV, srcRows, srcFlat, reduceDIte, List.length_append, setAll, Option.isSome_some, List.drop_zero, Int.reduceToNat, Int.toNat_natCast]
    repeat (refine And.intro ?_ ?_; focus (first | exact hpre.2 | (simp only [List.length_drop]; omega) | exact hb1 | first | exact ordP (by kernel_rfl) | with_reducible exact rfl | assumption | trivial | (simp only [inR]; omega) | omega | exact ⟨by omega, by omega⟩ | exact ⟨by omega, by omega, by omega⟩ | exact ⟨by omega, by omega, by omega⟩ | exact ⟨⟨by omega, by omega⟩, by omega⟩ | ((try simp only [decide_eq_true_eq, Bool.and_eq_true, ne_eq, decide_not, Bool.not_eq_true', Bool.not_eq_false', Bool.or_eq_false_iff, Bool.not_not, decide_eq_false_iff_not]); (try intro hh); (repeat' apply And.intro) <;> (first | omega | (simp only [inR]; omega) | assumption | exact ⟨by omega, by omega, by omega⟩ | exact ⟨⟨by omega, by omega⟩, by omega⟩ | exact hh.1 | exact hh.2 | exact hh.2.1 | exact hh.2.2 | exact hh.1.1 | exact hh.1.2 | (intro hq; exact ⟨hh, hq⟩) | (intro hq; exact ⟨hh.1, hq⟩) | (simp_all; done)))))
    refine hK7 _ ?_
    clear hK7
    refine W_seq (fun K8 hK8 => ?_)
    refine W_seq (fun K9 hK9 => ?_)
    refine W_region hT hG [] [3, 4, 5, 6, 27] ?_
    rw [hnt]
    simp only [baseS, eq_self, implies_true, if_true, if_false, reduceIte, Nat.reduceBEq, Nat.reduceEqDiff, Nat.reduceLT, Nat.reduceAdd, reduceCtorEq, relC, callOK0, callOK1, fzE, c_spec_DrawPlanIdsR, tyInt, tdInt, tyInts, tdInts, tyHull, tdHull, tyBoxes, tdBoxes, tyBytes, tdBytes, c_impl_PlanFind, c_laws_hasInt, c_impl_PlanIds, c_laws_alive, c_spec_DrawPlanIds, c_laws_sameInts, c_spec_PlanIds, c_impl_FindBox, decide_false, room, Nat.reduceLeDiff, Nat.zero_le, storeAV, rowQ, ownInts, FT.of, FT.setf, elems, appAV_I, appI, srcI, ownI, anyI, sameR, appAV_P, appP, srcP, ownP, anyP, rowsAV, appAV, srcRows, srcFlat, reduceDIte, List.length_append, setAll, Option.isSome_some, List.drop_zero, Int.reduceToNat, Int.toNat_natCast]
    repeat (refine And.intro ?_ ?_; focus (first | exact hpre.2 | (simp only [List.length_drop]; omega) | exact hb1 | first | exact ordP (by kernel_rfl) | with_reducible exact rfl | assumption | trivial | (simp only [inR]; omega) | omega | exact ⟨by omega, by omega⟩ | exact ⟨by omega, by omega, by omega⟩ | exact ⟨by omega, by omega, by omega⟩ | exact ⟨⟨by omega, by omega⟩, by omega⟩ | ((try simp only [decide_eq_true_eq, Bool.and_eq_true, ne_eq, decide_not, Bool.not_eq_true', Bool.not_eq_false', Bool.or_eq_false_iff, Bool.not_not, decide_eq_false_iff_not]); (try intro hh); (repeat' apply And.intro) <;> (first | omega | (simp only [inR]; omega) | assumption | exact ⟨by omega, by omega, by omega⟩ | exact ⟨⟨by omega, by omega⟩, by omega⟩ | exact hh.1 | exact hh.2 | exact hh.2.1 | exact hh.2.2 | exact hh.1.1 | exact hh.1.2 | (intro hq; exact ⟨hh, hq⟩) | (intro hq; exact ⟨hh.1, hq⟩) | (simp_all; done)))))
    refine hK9 _ ?_
    clear hK9
    refine W_cond (b := _) rfl (fun hc10 => ?_) (fun hc10 => ?_)
    · try simp only [decide_eq_true_eq, decide_eq_false_iff_not, ne_eq, Decidable.not_not, Bool.not_eq_true', Bool.not_eq_false', Bool.or_eq_true, Bool.and_eq_true, Bool.or_eq_false_iff, Bool.and_eq_false_iff] at hc10
      first | exact absurd rfl hc10 | (simp at hc10; done) | exact absurd trivial hc10
    · try simp only [decide_eq_true_eq, decide_eq_false_iff_not, ne_eq, Decidable.not_not, Bool.not_eq_true', Bool.not_eq_false', Bool.or_eq_true, Bool.and_eq_true, Bool.or_eq_false_iff, Bool.and_eq_false_iff] at hc10
      refine W_skip ?_
      simp only [thenQ, blockQ, loopQ, reduceIte, Nat.reduceEqDiff]
      refine hK8 _ ?_
      clear hK8
      refine W_seq (fun K11 hK11 => ?_)
      refine W_seq (fun K12 hK12 => ?_)
      refine W_region hT hG [] [3, 4, 5, 6, 7] ?_
      rw [hnt]
      simp only [baseS, eq_self, implies_true, if_true, if_false, reduceIte, Nat.reduceBEq, Nat.reduceEqDiff, Nat.reduceLT, Nat.reduceAdd, reduceCtorEq, relC, callOK0, callOK1, fzE, c_spec_DrawPlanIdsR, tyInt, tdInt, tyInts, tdInts, tyHull, tdHull, tyBoxes, tdBoxes, tyBytes, tdBytes, c_impl_PlanFind, c_laws_hasInt, c_impl_PlanIds, c_laws_alive, c_spec_DrawPlanIds, c_laws_sameInts, c_spec_PlanIds, c_impl_FindBox, decide_false, room, Nat.reduceLeDiff, Nat.zero_le, storeAV, rowQ, ownInts, FT.of, FT.setf, elems, appAV_I, appI, srcI, ownI, anyI, sameR, appAV_P, appP, srcP, ownP, anyP, rowsAV, appAV, srcRows, srcFlat, reduceDIte, List.length_append, setAll, Option.isSome_some, List.drop_zero, Int.reduceToNat, Int.toNat_natCast]
      repeat (refine And.intro ?_ ?_; focus (first | exact hpre.2 | (simp only [List.length_drop]; omega) | exact hb1 | first | exact ordP (by kernel_rfl) | with_reducible exact rfl | assumption | trivial | (simp only [inR]; omega) | omega | exact ⟨by omega, by omega⟩ | exact ⟨by omega, by omega, by omega⟩ | exact ⟨by omega, by omega, by omega⟩ | exact ⟨⟨by omega, by omega⟩, by omega⟩ | ((try simp only [decide_eq_true_eq, Bool.and_eq_true, ne_eq, decide_not, Bool.not_eq_true', Bool.not_eq_false', Bool.or_eq_false_iff, Bool.not_not, decide_eq_false_iff_not]); (try intro hh); (repeat' apply And.intro) <;> (first | omega | (simp only [inR]; omega) | assumption | exact ⟨by omega, by omega, by omega⟩ | exact ⟨⟨by omega, by omega⟩, by omega⟩ | exact hh.1 | exact hh.2 | exact hh.2.1 | exact hh.2.2 | exact hh.1.1 | exact hh.1.2 | (intro hq; exact ⟨hh, hq⟩) | (intro hq; exact ⟨hh.1, hq⟩) | (simp_all; done)))))
      refine hK12 _ ?_
      clear hK12
      refine W_block ?_
      refine W_loop (α := Int) [(3, .var), (4, .as), (5, .as), (6, .fz .i64), (7, .as)] (fun i => ⟨[(3, .op 3 0), (4, .rs .box bs), (5, .rs .i64 pl), (6, .rs .i64 (idsR y1 y2 y3 bs pl)), (7, .int i)], [(3, some (.var [.int y1, .int y2, .int y3]))], 63⟩) (fun i => 0 ≤ i ∧ i ≤ (idsR y1 y2 y3 bs pl).length) (fun i => ((idsR y1 y2 y3 bs pl).length - i).toNat) 0 ?_ ?_ ?_
      · (try simp only [hnt, hnp]); rfl
      · exact ⟨by omega, by omega⟩
      rintro i ⟨hi0, hi1⟩
      have htl : ((idsR y1 y2 y3 bs pl).take i.toNat).length ≤ 9223372036854775807 := by rw [List.length_take]; omega
      refine W_seq (fun K14 hK14 => ?_)
      refine W_seq (fun K15 hK15 => ?_)
      refine W_region hT hG [] [3, 4, 5, 6, 7, 31] ?_
      rw [hnt]
      simp only [baseS, eq_self, implies_true, if_true, if_false, reduceIte, Nat.reduceBEq, Nat.reduceEqDiff, Nat.reduceLT, Nat.reduceAdd, reduceCtorEq, relC, callOK0, callOK1, fzE, c_spec_DrawPlanIdsR, tyInt, tdInt, tyInts, tdInts, tyHull, tdHull, tyBoxes, tdBoxes, tyBytes, tdBytes, c_impl_PlanFind, c_laws_hasInt, c_impl_PlanIds, c_laws_alive, c_spec_DrawPlanIds, c_laws_sameInts, c_spec_PlanIds, c_impl_FindBox, decide_false, room, Nat.reduceLeDiff, Nat.zero_le, storeAV, rowQ, ownInts, FT.of, FT.setf, elems, appAV_I, appI, srcI, ownI, anyI, sameR, appAV_P, appP, srcP, ownP, anyP, rowsAV, appAV, srcRows, srcFlat, reduceDIte, List.length_append, setAll, Option.isSome_some, List.drop_zero, Int.reduceToNat, Int.toNat_natCast]
      repeat (refine And.intro ?_ ?_; focus (first | exact hpre.2 | (simp only [List.length_drop]; omega) | exact hb1 | first | exact ordP (by kernel_rfl) | with_reducible exact rfl | assumption | trivial | (simp only [inR]; omega) | omega | exact ⟨by omega, by omega⟩ | exact ⟨by omega, by omega, by omega⟩ | exact ⟨by omega, by omega, by omega⟩ | exact ⟨⟨by omega, by omega⟩, by omega⟩ | ((try simp only [decide_eq_true_eq, Bool.and_eq_true, ne_eq, decide_not, Bool.not_eq_true', Bool.not_eq_false', Bool.or_eq_false_iff, Bool.not_not, decide_eq_false_iff_not]); (try intro hh); (repeat' apply And.intro) <;> (first | omega | (simp only [inR]; omega) | assumption | exact ⟨by omega, by omega, by omega⟩ | exact ⟨⟨by omega, by omega⟩, by omega⟩ | exact hh.1 | exact hh.2 | exact hh.2.1 | exact hh.2.2 | exact hh.1.1 | exact hh.1.2 | (intro hq; exact ⟨hh, hq⟩) | (intro hq; exact ⟨hh.1, hq⟩) | (simp_all; done)))))
      refine hK15 _ ?_
      clear hK15
      refine W_cond (b := _) rfl (fun hc16 => ?_) (fun hc16 => ?_)
      · try simp only [decide_eq_true_eq, decide_eq_false_iff_not, ne_eq, Decidable.not_not, Bool.not_eq_true', Bool.not_eq_false', Bool.or_eq_true, Bool.and_eq_true, Bool.or_eq_false_iff, Bool.and_eq_false_iff] at hc16
        refine W_skip ?_
        simp only [thenQ, blockQ, loopQ, reduceIte, Nat.reduceEqDiff]
        refine hK14 _ ?_
        clear hK14
        refine W_seq (fun K17 hK17 => ?_)
        refine W_block ?_
        refine W_seq (fun K18 hK18 => ?_)
        refine W_region_draw hT hG (by rw [hP]; exact draws_ok) [] [3, 4, 5, 6, 7, 61] ?_
        rw [hnt]
        simp only [baseS, eq_self, implies_true, if_true, if_false, reduceIte, Nat.reduceBEq, Nat.reduceEqDiff, Nat.reduceLT, Nat.reduceAdd, reduceCtorEq, relC, callOK0, callOK1, fzE, c_spec_DrawPlanIdsR, tyInt, tdInt, tyInts, tdInts, tyHull, tdHull, tyBoxes, tdBoxes, tyBytes, tdBytes, c_impl_PlanFind, c_laws_hasInt, c_impl_PlanIds, c_laws_alive, c_spec_DrawPlanIds, c_laws_sameInts, c_spec_PlanIds, c_impl_FindBox, decide_false, room, Nat.reduceLeDiff, Nat.zero_le, storeAV, rowQ, ownInts, FT.of, FT.setf, elems, appAV_I, appI, srcI, ownI, anyI, sameR, appAV_P, appP, srcP, ownP, anyP, rowsAV, appAV, srcRows, srcFlat, reduceDIte, List.length_append, setAll, Option.isSome_some, List.drop_zero, Int.reduceToNat, Int.toNat_natCast]
        repeat (refine And.intro ?_ ?_; focus (first | exact hpre.2 | (simp only [List.length_drop]; omega) | exact hb1 | first | exact ordP (by kernel_rfl) | with_reducible exact rfl | assumption | trivial | (simp only [inR]; omega) | omega | exact ⟨by omega, by omega⟩ | exact ⟨by omega, by omega, by omega⟩ | exact ⟨by omega, by omega, by omega⟩ | exact ⟨⟨by omega, by omega⟩, by omega⟩ | ((try simp only [decide_eq_true_eq, Bool.and_eq_true, ne_eq, decide_not, Bool.not_eq_true', Bool.not_eq_false', Bool.or_eq_false_iff, Bool.not_not, decide_eq_false_iff_not]); (try intro hh); (repeat' apply And.intro) <;> (first | omega | (simp only [inR]; omega) | assumption | exact ⟨by omega, by omega, by omega⟩ | exact ⟨⟨by omega, by omega⟩, by omega⟩ | exact hh.1 | exact hh.2 | exact hh.2.1 | exact hh.2.2 | exact hh.1.1 | exact hh.1.2 | (intro hq; exact ⟨hh, hq⟩) | (intro hq; exact ⟨hh.1, hq⟩) | (simp_all; done)))))
        refine hK18 _ ?_
        clear hK18
        refine W_cond (b := _) rfl (fun hc19 => ?_) (fun hc19 => ?_)
        · try simp only [decide_eq_true_eq, decide_eq_false_iff_not, ne_eq, Decidable.not_not, Bool.not_eq_true', Bool.not_eq_false', Bool.or_eq_true, Bool.and_eq_true, Bool.or_eq_false_iff, Bool.and_eq_false_iff] at hc19
          have hf := ids_facts (b := y1) (r := y2) (t := y3) (bs := bs) (p := pl) (k := i.toNat) (by omega)
          rcases hc19 with (h | h) | h
          · exact absurd h hf.1
          · omega
          · omega
        · try simp only [decide_eq_true_eq, decide_eq_false_iff_not, ne_eq, Decidable.not_not, Bool.not_eq_true', Bool.not_eq_false', Bool.or_eq_true, Bool.and_eq_true, Bool.or_eq_false_iff, Bool.and_eq_false_iff] at hc19
          refine W_skip ?_
          simp only [thenQ, blockQ, loopQ, reduceIte, Nat.reduceEqDiff]
          refine hK17 _ ?_
          clear hK17
          refine W_region hT hG [] [3, 4, 5, 6, 7] ?_
          rw [hnt]
          simp only [baseS, eq_self, implies_true, if_true, if_false, reduceIte, Nat.reduceBEq, Nat.reduceEqDiff, Nat.reduceLT, Nat.reduceAdd, reduceCtorEq, relC, callOK0, callOK1, fzE, c_spec_DrawPlanIdsR, tyInt, tdInt, tyInts, tdInts, tyHull, tdHull, tyBoxes, tdBoxes, tyBytes, tdBytes, c_impl_PlanFind, c_laws_hasInt, c_impl_PlanIds, c_laws_alive, c_spec_DrawPlanIds, c_laws_sameInts, c_spec_PlanIds, c_impl_FindBox, decide_false, room, Nat.reduceLeDiff, Nat.zero_le, storeAV, rowQ, ownInts, FT.of, FT.setf, elems, appAV_I, appI, srcI, ownI, anyI, sameR, appAV_P, appP, srcP, ownP, anyP, rowsAV, appAV, srcRows, srcFlat, reduceDIte, List.length_append, setAll, Option.isSome_some, List.drop_zero, Int.reduceToNat, Int.toNat_natCast]
          repeat (refine And.intro ?_ ?_; focus (first | exact hpre.2 | (simp only [List.length_drop]; omega) | exact hb1 | first | exact ordP (by kernel_rfl) | with_reducible exact rfl | assumption | trivial | (simp only [inR]; omega) | omega | exact ⟨by omega, by omega⟩ | exact ⟨by omega, by omega, by omega⟩ | exact ⟨by omega, by omega, by omega⟩ | exact ⟨⟨by omega, by omega⟩, by omega⟩ | ((try simp only [decide_eq_true_eq, Bool.and_eq_true, ne_eq, decide_not, Bool.not_eq_true', Bool.not_eq_false', Bool.or_eq_false_iff, Bool.not_not, decide_eq_false_iff_not]); (try intro hh); (repeat' apply And.intro) <;> (first | omega | (simp only [inR]; omega) | assumption | exact ⟨by omega, by omega, by omega⟩ | exact ⟨⟨by omega, by omega⟩, by omega⟩ | exact hh.1 | exact hh.2 | exact hh.2.1 | exact hh.2.2 | exact hh.1.1 | exact hh.1.2 | (intro hq; exact ⟨hh, hq⟩) | (intro hq; exact ⟨hh.1, hq⟩) | (simp_all; done)))))
          refine ⟨i + 1, (by (try simp only [hnt, hnp]); rfl), ⟨by omega, by omega⟩, by dsimp only; omega⟩
      · try simp only [decide_eq_true_eq, decide_eq_false_iff_not, ne_eq, Decidable.not_not, Bool.not_eq_true', Bool.not_eq_false', Bool.or_eq_true, Bool.and_eq_true, Bool.or_eq_false_iff, Bool.and_eq_false_iff] at hc16
        refine W_exit ?_
        simp only [thenQ, blockQ, loopQ, reduceIte, Nat.reduceEqDiff]
        refine hK11 _ ?_
        clear hK11
        refine W_seq (fun K20 hK20 => ?_)
        refine W_region hT hG [] [2] ?_
        rw [hnt]
        simp only [baseS, eq_self, implies_true, if_true, if_false, reduceIte, Nat.reduceBEq, Nat.reduceEqDiff, Nat.reduceLT, Nat.reduceAdd, reduceCtorEq, relC, callOK0, callOK1, fzE, c_spec_DrawPlanIdsR, tyInt, tdInt, tyInts, tdInts, tyHull, tdHull, tyBoxes, tdBoxes, tyBytes, tdBytes, c_impl_PlanFind, c_laws_hasInt, c_impl_PlanIds, c_laws_alive, c_spec_DrawPlanIds, c_laws_sameInts, c_spec_PlanIds, c_impl_FindBox, decide_false, room, Nat.reduceLeDiff, Nat.zero_le, storeAV, rowQ, ownInts, FT.of, FT.setf, elems, appAV_I, appI, srcI, ownI, anyI, sameR, appAV_P, appP, srcP, ownP, anyP, rowsAV, appAV, srcRows, srcFlat, reduceDIte, List.length_append, setAll, Option.isSome_some, List.drop_zero, Int.reduceToNat, Int.toNat_natCast]
        repeat (refine And.intro ?_ ?_; focus (first | exact hpre.2 | (simp only [List.length_drop]; omega) | exact hb1 | first | exact ordP (by kernel_rfl) | with_reducible exact rfl | assumption | trivial | (simp only [inR]; omega) | omega | exact ⟨by omega, by omega⟩ | exact ⟨by omega, by omega, by omega⟩ | exact ⟨by omega, by omega, by omega⟩ | exact ⟨⟨by omega, by omega⟩, by omega⟩ | ((try simp only [decide_eq_true_eq, Bool.and_eq_true, ne_eq, decide_not, Bool.not_eq_true', Bool.not_eq_false', Bool.or_eq_false_iff, Bool.not_not, decide_eq_false_iff_not]); (try intro hh); (repeat' apply And.intro) <;> (first | omega | (simp only [inR]; omega) | assumption | exact ⟨by omega, by omega, by omega⟩ | exact ⟨⟨by omega, by omega⟩, by omega⟩ | exact hh.1 | exact hh.2 | exact hh.2.1 | exact hh.2.2 | exact hh.1.1 | exact hh.1.2 | (intro hq; exact ⟨hh, hq⟩) | (intro hq; exact ⟨hh.1, hq⟩) | (simp_all; done)))))
        refine hK20 _ ?_
        clear hK20
        refine W_ret ?_
        simp only [thenQ, blockQ, loopQ, retQ, reduceIte, Nat.reduceEqDiff]
        refine ret0 ?_ rfl rfl (.inr rfl) rfl
        simp only [show Try.f9.results.toList = [ResultVar.tmp 2] from rfl, resAV, resL, look, Nat.reduceEqDiff, reduceIte, tyHull, tdHull, applyUps, noH, isStr, List.length_cons, List.length_nil, Nat.reduceAdd, and_self]
        all_goals (
          first | rfl | skip)

end Go.Proofs.Ytehhmjnjogckeaa
