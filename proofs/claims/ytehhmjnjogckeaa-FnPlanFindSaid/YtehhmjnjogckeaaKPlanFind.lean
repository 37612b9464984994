/- Walk over the law laws.FnPlanFind. No condition. -/
import Derived.Test.YtehhmjnjogckeaaDrawP
import Derived.Test.YtehhmjnjogckeaaFind
import Derived.Test.YtehhmjnjogckeaaOkLoad
import Derived.Test.YtehhmjnjogckeaaAlive
import Derived.Test.YtehhmjnjogckeaaTopU
namespace Go.Proofs.Ytehhmjnjogckeaa
open Go
set_option linter.unusedVariables false
set_option linter.unusedSimpArgs false

theorem ids_no {b r t n : Int} {bs : List BoxD} {p : List Int} (h : findP b r t bs p n < 0) : n ∉ idsR b r t bs p := by
  intro hm
  rw [idsR] at hm
  split at hm
  · rename_i hp
    obtain ⟨k, hk, e, h0⟩ := idsTo_mem.1 hm
    have hok := planB_ok hp
    have h1 := hok.box (k := k) (by rw [e]; exact h0)
    have h2 := hok.at hk (by rw [e]; exact h0)
    rw [e] at h2; omega
  · simp at hm
theorem ids_len (b r t : Int) (bs : List BoxD) (p : List Int) : (idsR b r t bs p).length ≤ p.length := by
  unfold idsR; split
  · rw [idsTo_len]; exact selTo_len _ _
  · simp

def c_laws_FnPlanFind : Ctr where
  modes := [.v (.r .u8)]
  al := false
  run := fun xs os => match xs, os with
    | [.rs .u8 b], [] => some ⟨b.length ≤ 9223372036854775807 ∧ ∀ x ∈ b, 0 ≤ x ∧ x ≤ 255, .bool true, [], []⟩
    | _, _ => none
theorem m_laws_FnPlanFind : Meets Try.prog 8 c_laws_FnPlanFind := by
  refine meets_of (T := tyT) tyOK Try.func8 (by rfl) rfl (by decide) ?_
  intro args owns R hrun hpre
  simp only [c_laws_FnPlanFind] at hrun
  split at hrun
  case h_2 => cases hrun
  rename_i b
  cases hrun
  try dsimp only at hpre
  refine ⟨_, rfl, fun E hP hnt hnp => ?_⟩
  replace hnt : E.nt = 56 := hnt
  replace hnp : E.np = 1 := hnp
  have hT : ∀ t d, tyT t = some d → TyOK E.P t d := hP ▸ tyOK
  have hG : ∀ f C, Γof [(37, c_spec_DrawPlanFind), (38, c_impl_PlanFind), (39, c_spec_PlanFind), (40, c_laws_hasInt), (41, c_impl_PlanIds), (42, c_laws_alive)] f = some C → Meets E.P f C := hΓof (by rw [hP]; exact ⟨m_spec_DrawPlanFind, m_impl_PlanFind, m_spec_PlanFind, m_laws_hasInt, m_impl_PlanIds, m_laws_alive, trivial⟩)
  try simp only [show Try.f8.ntmps = 56 from rfl]
  refine W_seq (fun K1 hK1 => ?_)
  refine W_region hT hG [] [0] ?_
  rw [hnt]
  simp only [baseS, eq_self, implies_true, if_true, if_false, reduceIte, Nat.reduceBEq, Nat.reduceEqDiff, Nat.reduceLT, Nat.reduceAdd, reduceCtorEq, relC, callOK0, callOK1, fzE, c_spec_DrawPlanFindR, tyInt, tdInt, tyInts, tdInts, tyHull, tdHull, tyBoxes, tdBoxes, tyBytes, tdBytes, c_spec_DrawPlanFind, c_impl_PlanFind, c_spec_PlanFind, c_laws_hasInt, c_impl_PlanIds, c_laws_alive, decide_false, room, Nat.reduceLeDiff, Nat.zero_le, storeAV, rowQ, ownInts, FT.of, FT.setf, elems, appAV_I, appI, srcI, ownI, anyI, sameR, appAV_P, appP, srcP, ownP, anyP, rowsAV, appAV, srcRows, srcFlat, reduceDIte, List.length_append, setAll, Option.isSome_some, List.drop_zero, Int.reduceToNat, Int.toNat_natCast]
  repeat (refine And.intro ?_ ?_; focus (first | exact hpre.2 | (simp only [List.length_drop]; omega) | exact hb1 | first | exact ordP (by kernel_rfl) | with_reducible exact rfl | assumption | trivial | (simp only [inR]; omega) | omega | exact ⟨by omega, by omega⟩ | exact ⟨by omega, by omega, by omega⟩ | ((try simp only [decide_eq_true_eq, Bool.and_eq_true, ne_eq, decide_not, Bool.not_eq_true', Bool.not_eq_false', Bool.or_eq_false_iff, Bool.not_not, decide_eq_false_iff_not]); (try intro hh); (repeat' apply And.intro) <;> (first | omega | (simp only [inR]; omega) | assumption | exact hh.1 | exact hh.2 | exact hh.2.1 | exact hh.2.2 | exact hh.1.1 | exact hh.1.2 | (intro hq; exact ⟨hh, hq⟩) | (intro hq; exact ⟨hh.1, hq⟩) | (simp_all; done)))))
  refine hK1 _ ?_
  clear hK1
  refine W_seq (fun K2 hK2 => ?_)
  refine W_seq (fun K3 hK3 => ?_)
  refine W_region hT hG [] [0, 10] ?_
  rw [hnt]
  simp only [baseS, eq_self, implies_true, if_true, if_false, reduceIte, Nat.reduceBEq, Nat.reduceEqDiff, Nat.reduceLT, Nat.reduceAdd, reduceCtorEq, relC, callOK0, callOK1, fzE, c_spec_DrawPlanFindR, tyInt, tdInt, tyInts, tdInts, tyHull, tdHull, tyBoxes, tdBoxes, tyBytes, tdBytes, c_spec_DrawPlanFind, c_impl_PlanFind, c_spec_PlanFind, c_laws_hasInt, c_impl_PlanIds, c_laws_alive, decide_false, room, Nat.reduceLeDiff, Nat.zero_le, storeAV, rowQ, ownInts, FT.of, FT.setf, elems, appAV_I, appI, srcI, ownI, anyI, sameR, appAV_P, appP, srcP, ownP, anyP, rowsAV, appAV, srcRows, srcFlat, reduceDIte, List.length_append, setAll, Option.isSome_some, List.drop_zero, Int.reduceToNat, Int.toNat_natCast]
  repeat (refine And.intro ?_ ?_; focus (first | exact hpre.2 | (simp only [List.length_drop]; omega) | exact hb1 | first | exact ordP (by kernel_rfl) | with_reducible exact rfl | assumption | trivial | (simp only [inR]; omega) | omega | exact ⟨by omega, by omega⟩ | exact ⟨by omega, by omega, by omega⟩ | ((try simp only [decide_eq_true_eq, Bool.and_eq_true, ne_eq, decide_not, Bool.not_eq_true', Bool.not_eq_false', Bool.or_eq_false_iff, Bool.not_not, decide_eq_false_iff_not]); (try intro hh); (repeat' apply And.intro) <;> (first | omega | (simp only [inR]; omega) | assumption | exact hh.1 | exact hh.2 | exact hh.2.1 | exact hh.2.2 | exact hh.1.1 | exact hh.1.2 | (intro hq; exact ⟨hh, hq⟩) | (intro hq; exact ⟨hh.1, hq⟩) | (simp_all; done)))))
  refine hK3 _ ?_
  clear hK3
  refine W_cond (b := _) rfl (fun hc4 => ?_) (fun hc4 => ?_)
  · try simp only [decide_eq_true_eq, decide_eq_false_iff_not, ne_eq, Decidable.not_not, Bool.not_eq_true', Bool.not_eq_false', Bool.or_eq_true, Bool.and_eq_true, Bool.or_eq_false_iff, Bool.and_eq_false_iff] at hc4
    refine W_seq (fun K5 hK5 => ?_)
    refine W_region hT hG [] [2] ?_
    rw [hnt]
    simp only [baseS, eq_self, implies_true, if_true, if_false, reduceIte, Nat.reduceBEq, Nat.reduceEqDiff, Nat.reduceLT, Nat.reduceAdd, reduceCtorEq, relC, callOK0, callOK1, fzE, c_spec_DrawPlanFindR, tyInt, tdInt, tyInts, tdInts, tyHull, tdHull, tyBoxes, tdBoxes, tyBytes, tdBytes, c_spec_DrawPlanFind, c_impl_PlanFind, c_spec_PlanFind, c_laws_hasInt, c_impl_PlanIds, c_laws_alive, decide_false, room, Nat.reduceLeDiff, Nat.zero_le, storeAV, rowQ, ownInts, FT.of, FT.setf, elems, appAV_I, appI, srcI, ownI, anyI, sameR, appAV_P, appP, srcP, ownP, anyP, rowsAV, appAV, srcRows, srcFlat, reduceDIte, List.length_append, setAll, Option.isSome_some, List.drop_zero, Int.reduceToNat, Int.toNat_natCast]
    repeat (refine And.intro ?_ ?_; focus (first | exact hpre.2 | (simp only [List.length_drop]; omega) | exact hb1 | first | exact ordP (by kernel_rfl) | with_reducible exact rfl | assumption | trivial | (simp only [inR]; omega) | omega | exact ⟨by omega, by omega⟩ | exact ⟨by omega, by omega, by omega⟩ | ((try simp only [decide_eq_true_eq, Bool.and_eq_true, ne_eq, decide_not, Bool.not_eq_true', Bool.not_eq_false', Bool.or_eq_false_iff, Bool.not_not, decide_eq_false_iff_not]); (try intro hh); (repeat' apply And.intro) <;> (first | omega | (simp only [inR]; omega) | assumption | exact hh.1 | exact hh.2 | exact hh.2.1 | exact hh.2.2 | exact hh.1.1 | exact hh.1.2 | (intro hq; exact ⟨hh, hq⟩) | (intro hq; exact ⟨hh.1, hq⟩) | (simp_all; done)))))
    refine hK5 _ ?_
    clear hK5
    refine W_ret ?_
    simp only [thenQ, blockQ, loopQ, retQ, reduceIte, Nat.reduceEqDiff]
    refine ret0 ?_ rfl rfl (.inr rfl) rfl
    simp only [show Try.f8.results.toList = [ResultVar.tmp 2] from rfl, resAV, resL, look, Nat.reduceEqDiff, reduceIte, tyHull, tdHull, applyUps, noH, isStr, List.length_cons, List.length_nil, Nat.reduceAdd, and_self]
    all_goals (
      first | rfl | (refine congrArg (fun x => some (AV.bool x)) ?_; first | (simp only [decide_eq_false hno]; rfl) | (simp only [decide_eq_true hg.2.2.2, decide_eq_true hg.2.1, hg.2.2.2]; simp; omega) | (simp_all; omega) | (simp_all; done)) | skip)
  · try simp only [decide_eq_true_eq, decide_eq_false_iff_not, ne_eq, Decidable.not_not, Bool.not_eq_true', Bool.not_eq_false', Bool.or_eq_true, Bool.and_eq_true, Bool.or_eq_false_iff, Bool.and_eq_false_iff] at hc4
    refine W_skip ?_
    simp only [thenQ, blockQ, loopQ, reduceIte, Nat.reduceEqDiff]
    refine hK2 _ ?_
    clear hK2
    refine W_seq (fun K6 hK6 => ?_)
    refine W_region hT hG [] [3, 4, 5, 6] ?_
    rw [hnt]
    simp only [baseS, eq_self, implies_true, if_true, if_false, reduceIte, Nat.reduceBEq, Nat.reduceEqDiff, Nat.reduceLT, Nat.reduceAdd, reduceCtorEq, relC, callOK0, callOK1, fzE, c_spec_DrawPlanFindR, tyInt, tdInt, tyInts, tdInts, tyHull, tdHull, tyBoxes, tdBoxes, tyBytes, tdBytes, c_spec_DrawPlanFind, c_impl_PlanFind, c_spec_PlanFind, c_laws_hasInt, c_impl_PlanIds, c_laws_alive, decide_false, room, Nat.reduceLeDiff, Nat.zero_le, storeAV, rowQ, ownInts, FT.of, FT.setf, elems, appAV_I, appI, srcI, ownI, anyI, sameR, appAV_P, appP, srcP, ownP, anyP, rowsAV, appAV, srcRows, srcFlat, reduceDIte, List.length_append, setAll, Option.isSome_some, List.drop_zero, Int.reduceToNat, Int.toNat_natCast]
    repeat (refine And.intro ?_ ?_; focus (first | exact hpre.2 | (simp only [List.length_drop]; omega) | exact hb1 | first | exact ordP (by kernel_rfl) | with_reducible exact rfl | assumption | trivial | (simp only [inR]; omega) | omega | exact ⟨by omega, by omega⟩ | exact ⟨by omega, by omega, by omega⟩ | ((try simp only [decide_eq_true_eq, Bool.and_eq_true, ne_eq, decide_not, Bool.not_eq_true', Bool.not_eq_false', Bool.or_eq_false_iff, Bool.not_not, decide_eq_false_iff_not]); (try intro hh); (repeat' apply And.intro) <;> (first | omega | (simp only [inR]; omega) | assumption | exact hh.1 | exact hh.2 | exact hh.2.1 | exact hh.2.2 | exact hh.1.1 | exact hh.1.2 | (intro hq; exact ⟨hh, hq⟩) | (intro hq; exact ⟨hh.1, hq⟩) | (simp_all; done)))))
    rintro _ ⟨y1, y2, y3, bs, pl, n, rfl, hbl, hpl⟩
    have hb1 : bs.length ≤ 9223372036854775807 ∧ pl.length ≤ 9223372036854775807 := ⟨by omega, by omega⟩
    have hil := ids_len y1 y2 y3 bs pl
    simp only [baseS, eq_self, implies_true, if_true, if_false, reduceIte, Nat.reduceBEq, Nat.reduceEqDiff, Nat.reduceLT, Nat.reduceAdd, reduceCtorEq, relC, callOK0, callOK1, fzE, c_spec_DrawPlanFindR, tyInt, tdInt, tyInts, tdInts, tyHull, tdHull, tyBoxes, tdBoxes, tyBytes, tdBytes, c_spec_DrawPlanFind, c_impl_PlanFind, c_spec_PlanFind, c_laws_hasInt, c_impl_PlanIds, c_laws_alive, decide_false, room, Nat.reduceLeDiff, Nat.zero_le, storeAV, rowQ, ownInts, FT.of, FT.setf, elems, appAV_I, appI, srcI, ownI, anyI, sameR, appAV_P, appP, srcP, ownP, anyP, rowsAV, appAV, srcRows, srcFlat, reduceDIte, List.length_append, setAll, Option.isSome_some, List.drop_zero, Int.reduceToNat, Int.toNat_natCast]
    repeat (refine And.intro ?_ ?_; focus (first | exact hpre.2 | (simp only [List.length_drop]; omega) | exact hb1 | first | exact ordP (by kernel_rfl) | with_reducible exact rfl | assumption | trivial | (simp only [inR]; omega) | omega | exact ⟨by omega, by omega⟩ | exact ⟨by omega, by omega, by omega⟩ | ((try simp only [decide_eq_true_eq, Bool.and_eq_true, ne_eq, decide_not, Bool.not_eq_true', Bool.not_eq_false', Bool.or_eq_false_iff, Bool.not_not, decide_eq_false_iff_not]); (try intro hh); (repeat' apply And.intro) <;> (first | omega | (simp only [inR]; omega) | assumption | exact hh.1 | exact hh.2 | exact hh.2.1 | exact hh.2.2 | exact hh.1.1 | exact hh.1.2 | (intro hq; exact ⟨hh, hq⟩) | (intro hq; exact ⟨hh.1, hq⟩) | (simp_all; done)))))
    refine hK6 _ ?_
    clear hK6
    refine W_seq (fun K7 hK7 => ?_)
    refine W_region hT hG [] [3, 4, 5, 6, 7] ?_
    rw [hnt]
    simp only [baseS, eq_self, implies_true, if_true, if_false, reduceIte, Nat.reduceBEq, Nat.reduceEqDiff, Nat.reduceLT, Nat.reduceAdd, reduceCtorEq, relC, callOK0, callOK1, fzE, c_spec_DrawPlanFindR, tyInt, tdInt, tyInts, tdInts, tyHull, tdHull, tyBoxes, tdBoxes, tyBytes, tdBytes, c_spec_DrawPlanFind, c_impl_PlanFind, c_spec_PlanFind, c_laws_hasInt, c_impl_PlanIds, c_laws_alive, decide_false, room, Nat.reduceLeDiff, Nat.zero_le, storeAV, rowQ, ownInts, FT.of, FT.setf, elems, appAV_I, appI, srcI, ownI, anyI, sameR, appAV_P, appP, srcP, ownP, anyP, rowsAV, appAV, srcRows, srcFlat, reduceDIte, List.length_append, setAll, Option.isSome_some, List.drop_zero, Int.reduceToNat, Int.toNat_natCast]
    repeat (refine And.intro ?_ ?_; focus (first | exact hpre.2 | (simp only [List.length_drop]; omega) | exact hb1 | first | exact ordP (by kernel_rfl) | with_reducible exact rfl | assumption | trivial | (simp only [inR]; omega) | omega | exact ⟨by omega, by omega⟩ | exact ⟨by omega, by omega, by omega⟩ | ((try simp only [decide_eq_true_eq, Bool.and_eq_true, ne_eq, decide_not, Bool.not_eq_true', Bool.not_eq_false', Bool.or_eq_false_iff, Bool.not_not, decide_eq_false_iff_not]); (try intro hh); (repeat' apply And.intro) <;> (first | omega | (simp only [inR]; omega) | assumption | exact hh.1 | exact hh.2 | exact hh.2.1 | exact hh.2.2 | exact hh.1.1 | exact hh.1.2 | (intro hq; exact ⟨hh, hq⟩) | (intro hq; exact ⟨hh.1, hq⟩) | (simp_all; done)))))
    refine hK7 _ ?_
    clear hK7
    refine W_seq (fun K8 hK8 => ?_)
    refine W_seq (fun K9 hK9 => ?_)
    refine W_region hT hG [] [3, 4, 5, 6, 7, 29] ?_
    rw [hnt]
    simp only [baseS, eq_self, implies_true, if_true, if_false, reduceIte, Nat.reduceBEq, Nat.reduceEqDiff, Nat.reduceLT, Nat.reduceAdd, reduceCtorEq, relC, callOK0, callOK1, fzE, c_spec_DrawPlanFindR, tyInt, tdInt, tyInts, tdInts, tyHull, tdHull, tyBoxes, tdBoxes, tyBytes, tdBytes, c_spec_DrawPlanFind, c_impl_PlanFind, c_spec_PlanFind, c_laws_hasInt, c_impl_PlanIds, c_laws_alive, decide_false, room, Nat.reduceLeDiff, Nat.zero_le, storeAV, rowQ, ownInts, FT.of, FT.setf, elems, appAV_I, appI, srcI, ownI, anyI, sameR, appAV_P, appP, srcP, ownP, anyP, rowsAV, appAV, srcRows, srcFlat, reduceDIte, List.length_append, setAll, Option.isSome_some, List.drop_zero, Int.reduceToNat, Int.toNat_natCast]
    repeat (refine And.intro ?_ ?_; focus (first | exact hpre.2 | (simp only [List.length_drop]; omega) | exact hb1 | first | exact ordP (by kernel_rfl) | with_reducible exact rfl | assumption | trivial | (simp only [inR]; omega) | omega | exact ⟨by omega, by omega⟩ | exact ⟨by omega, by omega, by omega⟩ | ((try simp only [decide_eq_true_eq, Bool.and_eq_true, ne_eq, decide_not, Bool.not_eq_true', Bool.not_eq_false', Bool.or_eq_false_iff, Bool.not_not, decide_eq_false_iff_not]); (try intro hh); (repeat' apply And.intro) <;> (first | omega | (simp only [inR]; omega) | assumption | exact hh.1 | exact hh.2 | exact hh.2.1 | exact hh.2.2 | exact hh.1.1 | exact hh.1.2 | (intro hq; exact ⟨hh, hq⟩) | (intro hq; exact ⟨hh.1, hq⟩) | (simp_all; done)))))
    refine hK9 _ ?_
    clear hK9
    refine W_cond (b := _) rfl (fun hc10 => ?_) (fun hc10 => ?_)
    · try simp only [decide_eq_true_eq, decide_eq_false_iff_not, ne_eq, Decidable.not_not, Bool.not_eq_true', Bool.not_eq_false', Bool.or_eq_true, Bool.and_eq_true, Bool.or_eq_false_iff, Bool.and_eq_false_iff] at hc10
      first | exact absurd rfl hc10 | (simp at hc10; done) | exact absurd trivial hc10
    · try simp only [decide_eq_true_eq, decide_eq_false_iff_not, ne_eq, Decidable.not_not, Bool.not_eq_true', Bool.not_eq_false', Bool.or_eq_true, Bool.and_eq_true, Bool.or_eq_false_iff, Bool.and_eq_false_iff] at hc10
      refine W_skip ?_
      simp only [thenQ, blockQ, loopQ, reduceIte, Nat.reduceEqDiff]
      refine hK8 _ ?_
      clear hK8
      refine W_seq (fun K11 hK11 => ?_)
      refine W_seq (fun K12 hK12 => ?_)
      refine W_region hT hG [] [3, 4, 5, 6, 7, 31] ?_
      rw [hnt]
      simp only [baseS, eq_self, implies_true, if_true, if_false, reduceIte, Nat.reduceBEq, Nat.reduceEqDiff, Nat.reduceLT, Nat.reduceAdd, reduceCtorEq, relC, callOK0, callOK1, fzE, c_spec_DrawPlanFindR, tyInt, tdInt, tyInts, tdInts, tyHull, tdHull, tyBoxes, tdBoxes, tyBytes, tdBytes, c_spec_DrawPlanFind, c_impl_PlanFind, c_spec_PlanFind, c_laws_hasInt, c_impl_PlanIds, c_laws_alive, decide_false, room, Nat.reduceLeDiff, Nat.zero_le, storeAV, rowQ, ownInts, FT.of, FT.setf, elems, appAV_I, appI, srcI, ownI, anyI, sameR, appAV_P, appP, srcP, ownP, anyP, rowsAV, appAV, srcRows, srcFlat, reduceDIte, List.length_append, setAll, Option.isSome_some, List.drop_zero, Int.reduceToNat, Int.toNat_natCast]
      repeat (refine And.intro ?_ ?_; focus (first | exact hpre.2 | (simp only [List.length_drop]; omega) | exact hb1 | first | exact ordP (by kernel_rfl) | with_reducible exact rfl | assumption | trivial | (simp only [inR]; omega) | omega | exact ⟨by omega, by omega⟩ | exact ⟨by omega, by omega, by omega⟩ | ((try simp only [decide_eq_true_eq, Bool.and_eq_true, ne_eq, decide_not, Bool.not_eq_true', Bool.not_eq_false', Bool.or_eq_false_iff, Bool.not_not, decide_eq_false_iff_not]); (try intro hh); (repeat' apply And.intro) <;> (first | omega | (simp only [inR]; omega) | assumption | exact hh.1 | exact hh.2 | exact hh.2.1 | exact hh.2.2 | exact hh.1.1 | exact hh.1.2 | (intro hq; exact ⟨hh, hq⟩) | (intro hq; exact ⟨hh.1, hq⟩) | (simp_all; done)))))
      refine hK12 _ ?_
      clear hK12
      refine W_cond (b := _) rfl (fun hc13 => ?_) (fun hc13 => ?_)
      · try simp only [decide_eq_true_eq, decide_eq_false_iff_not, ne_eq, Decidable.not_not, Bool.not_eq_true', Bool.not_eq_false', Bool.or_eq_true, Bool.and_eq_true, Bool.or_eq_false_iff, Bool.and_eq_false_iff] at hc13
        refine W_seq (fun K14 hK14 => ?_)
        by_cases hs15 : findP y1 y2 y3 bs pl n = -1
        · skip
          refine W_region hT hG [100035, 100036, 100037, 100038, 100039, 100040, 100041] [2] ?_
          rw [hnt]
          have hno := ids_no hc13
          simp only [baseS, eq_self, implies_true, if_true, if_false, reduceIte, Nat.reduceBEq, Nat.reduceEqDiff, Nat.reduceLT, Nat.reduceAdd, reduceCtorEq, relC, callOK0, callOK1, fzE, c_spec_DrawPlanFindR, tyInt, tdInt, tyInts, tdInts, tyHull, tdHull, tyBoxes, tdBoxes, tyBytes, tdBytes, c_spec_DrawPlanFind, c_impl_PlanFind, c_spec_PlanFind, c_laws_hasInt, c_impl_PlanIds, c_laws_alive, decide_false, room, Nat.reduceLeDiff, Nat.zero_le, storeAV, rowQ, ownInts, FT.of, FT.setf, elems, appAV_I, appI, srcI, ownI, anyI, sameR, appAV_P, appP, srcP, ownP, anyP, rowsAV, appAV, srcRows, srcFlat, reduceDIte, List.length_append, setAll, Option.isSome_some, List.drop_zero, Int.reduceToNat, Int.toNat_natCast, decide_eq_true hs15]
          repeat (refine And.intro ?_ ?_; focus (first | exact hpre.2 | (simp only [List.length_drop]; omega) | exact hb1 | first | exact ordP (by kernel_rfl) | with_reducible exact rfl | assumption | trivial | (simp only [inR]; omega) | omega | exact ⟨by omega, by omega⟩ | exact ⟨by omega, by omega, by omega⟩ | ((try simp only [decide_eq_true_eq, Bool.and_eq_true, ne_eq, decide_not, Bool.not_eq_true', Bool.not_eq_false', Bool.or_eq_false_iff, Bool.not_not, decide_eq_false_iff_not]); (try intro hh); (repeat' apply And.intro) <;> (first | omega | (simp only [inR]; omega) | assumption | exact hh.1 | exact hh.2 | exact hh.2.1 | exact hh.2.2 | exact hh.1.1 | exact hh.1.2 | (intro hq; exact ⟨hh, hq⟩) | (intro hq; exact ⟨hh.1, hq⟩) | (simp_all; done)))))
          refine hK14 _ ?_
          clear hK14
          refine W_ret ?_
          simp only [thenQ, blockQ, loopQ, retQ, reduceIte, Nat.reduceEqDiff]
          refine ret0 ?_ rfl rfl (.inr rfl) rfl
          simp only [show Try.f8.results.toList = [ResultVar.tmp 2] from rfl, resAV, resL, look, Nat.reduceEqDiff, reduceIte, tyHull, tdHull, applyUps, noH, isStr, List.length_cons, List.length_nil, Nat.reduceAdd, and_self]
          all_goals (
            first | rfl | (refine congrArg (fun x => some (AV.bool x)) ?_; first | (simp only [decide_eq_false hno]; rfl) | (simp only [decide_eq_true hg.2.2.2, decide_eq_true hg.2.1, hg.2.2.2]; simp; omega) | (simp_all; omega) | (simp_all; done)) | skip)
        · skip
          exact absurd (findP_neg hc13).1 hs15
      · try simp only [decide_eq_true_eq, decide_eq_false_iff_not, ne_eq, Decidable.not_not, Bool.not_eq_true', Bool.not_eq_false', Bool.or_eq_true, Bool.and_eq_true, Bool.or_eq_false_iff, Bool.and_eq_false_iff] at hc13
        refine W_skip ?_
        simp only [thenQ, blockQ, loopQ, reduceIte, Nat.reduceEqDiff]
        refine hK11 _ ?_
        clear hK11
        refine W_seq (fun K16 hK16 => ?_)
        refine W_region hT hG [] [2] ?_
        rw [hnt]
        have hg := findP_get (Int.not_lt.1 hc13)
        simp only [baseS, eq_self, implies_true, if_true, if_false, reduceIte, Nat.reduceBEq, Nat.reduceEqDiff, Nat.reduceLT, Nat.reduceAdd, reduceCtorEq, relC, callOK0, callOK1, fzE, c_spec_DrawPlanFindR, tyInt, tdInt, tyInts, tdInts, tyHull, tdHull, tyBoxes, tdBoxes, tyBytes, tdBytes, c_spec_DrawPlanFind, c_impl_PlanFind, c_spec_PlanFind, c_laws_hasInt, c_impl_PlanIds, c_laws_alive, decide_false, room, Nat.reduceLeDiff, Nat.zero_le, storeAV, rowQ, ownInts, FT.of, FT.setf, elems, appAV_I, appI, srcI, ownI, anyI, sameR, appAV_P, appP, srcP, ownP, anyP, rowsAV, appAV, srcRows, srcFlat, reduceDIte, List.length_append, setAll, Option.isSome_some, List.drop_zero, Int.reduceToNat, Int.toNat_natCast]
        repeat (refine And.intro ?_ ?_; focus (first | exact hpre.2 | (simp only [List.length_drop]; omega) | exact hb1 | first | exact ordP (by kernel_rfl) | with_reducible exact rfl | assumption | trivial | (simp only [inR]; omega) | omega | exact ⟨by omega, by omega⟩ | exact ⟨by omega, by omega, by omega⟩ | ((try simp only [decide_eq_true_eq, Bool.and_eq_true, ne_eq, decide_not, Bool.not_eq_true', Bool.not_eq_false', Bool.or_eq_false_iff, Bool.not_not, decide_eq_false_iff_not]); (try intro hh); (repeat' apply And.intro) <;> (first | omega | (simp only [inR]; omega) | assumption | exact hh.1 | exact hh.2 | exact hh.2.1 | exact hh.2.2 | exact hh.1.1 | exact hh.1.2 | (intro hq; exact ⟨hh, hq⟩) | (intro hq; exact ⟨hh.1, hq⟩) | (simp_all; done)))))
        refine hK16 _ ?_
        clear hK16
        refine W_ret ?_
        simp only [thenQ, blockQ, loopQ, retQ, reduceIte, Nat.reduceEqDiff]
        refine ret0 ?_ rfl rfl (.inr rfl) rfl
        simp only [show Try.f8.results.toList = [ResultVar.tmp 2] from rfl, resAV, resL, look, Nat.reduceEqDiff, reduceIte, tyHull, tdHull, applyUps, noH, isStr, List.length_cons, List.length_nil, Nat.reduceAdd, and_self]
        all_goals (
          first | rfl | (refine congrArg (fun x => some (AV.bool x)) ?_; first | (simp only [decide_eq_false hno]; rfl) | (simp only [decide_eq_true hg.2.2.2, decide_eq_true hg.2.1, hg.2.2.2]; simp; omega) | (simp_all; omega) | (simp_all; done)) | skip)

end Go.Proofs.Ytehhmjnjogckeaa
