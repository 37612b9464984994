/- Walk over the law laws.FnSortRows. No condition. -/
import Derived.Test.YtpiaeckkjdcifaaDrawP
import Derived.Test.YtpiaeckkjdcifaaSortW
import Derived.Test.YtpiaeckkjdcifaaMisc
import Derived.Test.YtpiaeckkjdcifaaLoadB
import Derived.Test.YtpiaeckkjdcifaaAlive
import Derived.Test.YtpiaeckkjdcifaaTopU
namespace Go.Proofs.Ytpiaeckkjdcifaa
open Go
set_option linter.unusedVariables false
set_option linter.unusedSimpArgs false

theorem sort_facts {b r t : Int} {bs : List BoxD} {p : List Int} (h : planB b r t bs p = true) :
    planB b r t bs (sortR b r t bs p) = true ∧ heelR b r t bs (sortR b r t bs p) = heelR b r t bs p ∧ trimR b r t bs (sortR b r t bs p) = trimR b r t bs p ∧
    ligR b r t bs (sortR b r t bs p) = [] ∧ sortR b r t bs (sortR b r t bs p) = sortR b r t bs p ∧ rowsR b r t bs (sortR b r t bs p) = rowsR b r t bs p := by
  have hok := planB_ok h
  have ht := hv_t hok.ship
  have e : sortR b r t bs p = passN (wAt bs) t p t.toNat := by rw [sortR, if_pos h]
  have hS : PlanOK b r t bs (sortR b r t bs p) := by rw [e]; exact passN_ok hok _
  have hpS := planB_of hS
  have hlen : (sortR b r t bs p).length = p.length := by rw [e, passN_len]
  have hsum := fun F => passN_sum (w := wAt bs) (t := t) (by omega) (p := p) F t.toNat
  have hdesc : ∀ k, k < (sortR b r t bs p).length → 0 < (k : Int) % t → wAt bs ((sortR b r t bs p).getD k 0) ≤ wAt bs ((sortR b r t bs p).getD (k - 1) 0) := fun k hk hm => by
    rw [e]; exact rows_desc (by omega) hok.rows (by omega) hm
  refine ⟨hpS, ?_, ?_, ?_, ?_, ?_⟩
  · rw [heelR, if_pos hpS, heelR, if_pos h, hlen, e]; exact hsum (fun q v => v * (2 * (q % r) - (r - 1)))
  · rw [trimR, if_pos hpS, trimR, if_pos h, hlen, e]; exact hsum (fun q v => v * (2 * (q / r) - (b - 1)))
  · rw [ligR, if_pos hpS]
    refine selTo_nil (fun k hk => ?_)
    unfold ligB
    by_cases hm : 0 < (k : Int) % t
    · rw [decide_eq_false (show ¬ wAt bs ((sortR b r t bs p).getD (k - 1) 0) < wAt bs ((sortR b r t bs p).getD k 0) by have := hdesc k hk hm; omega), Bool.and_false]
    · rw [decide_eq_false hm, Bool.false_and]
  · rw [show sortR b r t bs (sortR b r t bs p) = passN (wAt bs) t (sortR b r t bs p) t.toNat by rw [sortR, if_pos hpS]]
    exact passN_idle hdesc _
  · rw [rowsR, if_pos hpS, rowsR, if_pos h, hlen]
    unfold rowsW
    refine List.map_congr_left (fun q _ => ?_)
    unfold rowW
    rw [e]; exact hsum (fun q' v => if q' = (q : Int) then v else 0)
theorem sort_none {b r t : Int} {bs : List BoxD} {p : List Int} (h : ¬ ((sortR b r t bs p).length : Int) = 0) : planB b r t bs p = true := by
  cases hp : planB b r t bs p with
  | true => rfl
  | false => rw [sortR, hp] at h; simp at h

def c_laws_FnSortRows : Ctr where
  modes := [.v (.r .u8)]
  al := false
  run := fun xs os => match xs, os with
    | [.rs .u8 b], [] => some ⟨b.length ≤ 9223372036854775807 ∧ ∀ x ∈ b, 0 ≤ x ∧ x ≤ 255, .bool true, [], []⟩
    | _, _ => none
set_option maxRecDepth 100000 in
theorem m_laws_FnSortRows : Meets Try.prog 9 c_laws_FnSortRows := by
  refine meets_of (T := tyT) tyOK Try.func9 (by rfl) rfl (by decide) ?_
  intro args owns R hrun hpre
  simp only [c_laws_FnSortRows] at hrun
  split at hrun
  case h_2 => cases hrun
  rename_i b
  cases hrun
  try dsimp only at hpre
  refine ⟨_, rfl, fun E hP hnt hnp => ?_⟩
  replace hnt : E.nt = 120 := hnt
  replace hnp : E.np = 1 := hnp
  have hT : ∀ t d, tyT t = some d → TyOK E.P t d := hP ▸ tyOK
  have hG : ∀ f C, Γof [(15, c_laws_sameInts), (17, c_laws_alive), (42, c_spec_SortRows), (43, c_impl_SortRows), (44, c_spec_DrawSortRows), (45, c_impl_HeelOf), (46, c_impl_TrimOf), (47, c_impl_PlanValid), (48, c_impl_OnLighter), (49, c_impl_RowWeights)] f = some C → Meets E.P f C := hΓof (by rw [hP]; exact ⟨m_laws_sameInts, m_laws_alive, m_spec_SortRows, m_impl_SortRows, m_spec_DrawSortRows, m_impl_HeelOf, m_impl_TrimOf, m_impl_PlanValid, m_impl_OnLighter, m_impl_RowWeights, trivial⟩)
  try simp only [show Try.f9.ntmps = 120 from rfl]
  refine W_seq (fun K1 hK1 => ?_)
  refine W_region hT hG [100069, 100072, 100075, 100078, 100079, 100080, 100083, 100084, 100085, 100088, 100089, 100090, 100091, 100094, 100095, 100096, 100097, 100098, 100099, 100102, 100103, 100104, 100105, 100106, 100107, 100110, 100111, 100112, 100113, 100114, 100115, 100116, 100117, 100118] [0] ?_
  rw [hnt]
  simp only [baseS, eq_self, implies_true, if_true, if_false, reduceIte, Nat.reduceBEq, Nat.reduceEqDiff, Nat.reduceLT, Nat.reduceAdd, reduceCtorEq, relC, callOK0, callOK1, fzE, c_spec_DrawSortRowsR, tyInt, tdInt, tyBytes, tdBytes, tyInts, tdInts, tyHull, tdHull, tyBoxes, tdBoxes, c_laws_sameInts, c_laws_alive, c_spec_SortRows, c_impl_SortRows, c_spec_DrawSortRows, c_impl_HeelOf, c_impl_TrimOf, c_impl_PlanValid, c_impl_OnLighter, c_impl_RowWeights, decide_false, room, Nat.reduceLeDiff, Nat.zero_le, storeAV, rowQ, ownInts, FT.of, FT.setf, elems, appAV_I, appI, srcI, ownI, anyI, sameR, appAV_P, appP, srcP, ownP, anyP, rowsAV, appAV, srcRows, srcFlat, reduceDIte, List.length_append, setAll, Option.isSome_some, List.drop_zero, Int.reduceToNat, List.set_cons_zero, List.set_cons_succ]
  repeat (refine And.intro ?_ ?_; focus (first | exact hpre.2 | (simp only [List.length_drop]; omega) | exact hb1 | exact hb2 | exact ⟨rfl, by omega⟩ | first | exact ordP (by kernel_rfl) | with_reducible exact rfl | assumption | trivial | (simp only [inR]; omega) | omega | exact ⟨by omega, by omega⟩ | exact ⟨by omega, by omega, by omega⟩ | ((try simp only [decide_eq_true_eq, Bool.and_eq_true, ne_eq, decide_not, Bool.not_eq_true', Bool.not_eq_false', Bool.or_eq_false_iff, Bool.not_not, decide_eq_false_iff_not]); (try intro hh); (repeat' apply And.intro) <;> (first | omega | (simp only [inR]; omega) | assumption | exact hh.1 | exact hh.2 | exact hh.2.1 | exact hh.2.2 | exact hh.1.1 | exact hh.1.2 | (intro hq; exact ⟨hh, hq⟩) | (intro hq; exact ⟨hh.1, hq⟩) | (simp_all; done)))))
  refine hK1 _ ?_
  clear hK1
  refine W_seq (fun K2 hK2 => ?_)
  refine W_seq (fun K3 hK3 => ?_)
  refine W_region hT hG [100069, 100072, 100075, 100078, 100079, 100080, 100083, 100084, 100085, 100088, 100089, 100090, 100091, 100094, 100095, 100096, 100097, 100098, 100099, 100102, 100103, 100104, 100105, 100106, 100107, 100110, 100111, 100112, 100113, 100114, 100115, 100116, 100117, 100118] [0, 17] ?_
  rw [hnt]
  simp only [baseS, eq_self, implies_true, if_true, if_false, reduceIte, Nat.reduceBEq, Nat.reduceEqDiff, Nat.reduceLT, Nat.reduceAdd, reduceCtorEq, relC, callOK0, callOK1, fzE, c_spec_DrawSortRowsR, tyInt, tdInt, tyBytes, tdBytes, tyInts, tdInts, tyHull, tdHull, tyBoxes, tdBoxes, c_laws_sameInts, c_laws_alive, c_spec_SortRows, c_impl_SortRows, c_spec_DrawSortRows, c_impl_HeelOf, c_impl_TrimOf, c_impl_PlanValid, c_impl_OnLighter, c_impl_RowWeights, decide_false, room, Nat.reduceLeDiff, Nat.zero_le, storeAV, rowQ, ownInts, FT.of, FT.setf, elems, appAV_I, appI, srcI, ownI, anyI, sameR, appAV_P, appP, srcP, ownP, anyP, rowsAV, appAV, srcRows, srcFlat, reduceDIte, List.length_append, setAll, Option.isSome_some, List.drop_zero, Int.reduceToNat, List.set_cons_zero, List.set_cons_succ]
  repeat (refine And.intro ?_ ?_; focus (first | exact hpre.2 | (simp only [List.length_drop]; omega) | exact hb1 | exact hb2 | exact ⟨rfl, by omega⟩ | first | exact ordP (by kernel_rfl) | with_reducible exact rfl | assumption | trivial | (simp only [inR]; omega) | omega | exact ⟨by omega, by omega⟩ | exact ⟨by omega, by omega, by omega⟩ | ((try simp only [decide_eq_true_eq, Bool.and_eq_true, ne_eq, decide_not, Bool.not_eq_true', Bool.not_eq_false', Bool.or_eq_false_iff, Bool.not_not, decide_eq_false_iff_not]); (try intro hh); (repeat' apply And.intro) <;> (first | omega | (simp only [inR]; omega) | assumption | exact hh.1 | exact hh.2 | exact hh.2.1 | exact hh.2.2 | exact hh.1.1 | exact hh.1.2 | (intro hq; exact ⟨hh, hq⟩) | (intro hq; exact ⟨hh.1, hq⟩) | (simp_all; done)))))
  refine hK3 _ ?_
  clear hK3
  refine W_cond (b := _) rfl (fun hc4 => ?_) (fun hc4 => ?_)
  · try simp only [decide_eq_true_eq, decide_eq_false_iff_not, ne_eq, Decidable.not_not, Bool.not_eq_true', Bool.not_eq_false', Bool.or_eq_true, Bool.and_eq_true, Bool.or_eq_false_iff, Bool.and_eq_false_iff] at hc4
    refine W_seq (fun K5 hK5 => ?_)
    refine W_region hT hG [100069, 100072, 100075, 100078, 100079, 100080, 100083, 100084, 100085, 100088, 100089, 100090, 100091, 100094, 100095, 100096, 100097, 100098, 100099, 100102, 100103, 100104, 100105, 100106, 100107, 100110, 100111, 100112, 100113, 100114, 100115, 100116, 100117, 100118] [2] ?_
    rw [hnt]
    simp only [baseS, eq_self, implies_true, if_true, if_false, reduceIte, Nat.reduceBEq, Nat.reduceEqDiff, Nat.reduceLT, Nat.reduceAdd, reduceCtorEq, relC, callOK0, callOK1, fzE, c_spec_DrawSortRowsR, tyInt, tdInt, tyBytes, tdBytes, tyInts, tdInts, tyHull, tdHull, tyBoxes, tdBoxes, c_laws_sameInts, c_laws_alive, c_spec_SortRows, c_impl_SortRows, c_spec_DrawSortRows, c_impl_HeelOf, c_impl_TrimOf, c_impl_PlanValid, c_impl_OnLighter, c_impl_RowWeights, decide_false, room, Nat.reduceLeDiff, Nat.zero_le, storeAV, rowQ, ownInts, FT.of, FT.setf, elems, appAV_I, appI, srcI, ownI, anyI, sameR, appAV_P, appP, srcP, ownP, anyP, rowsAV, appAV, srcRows, srcFlat, reduceDIte, List.length_append, setAll, Option.isSome_some, List.drop_zero, Int.reduceToNat, List.set_cons_zero, List.set_cons_succ]
    repeat (refine And.intro ?_ ?_; focus (first | exact hpre.2 | (simp only [List.length_drop]; omega) | exact hb1 | exact hb2 | exact ⟨rfl, by omega⟩ | first | exact ordP (by kernel_rfl) | with_reducible exact rfl | assumption | trivial | (simp only [inR]; omega) | omega | exact ⟨by omega, by omega⟩ | exact ⟨by omega, by omega, by omega⟩ | ((try simp only [decide_eq_true_eq, Bool.and_eq_true, ne_eq, decide_not, Bool.not_eq_true', Bool.not_eq_false', Bool.or_eq_false_iff, Bool.not_not, decide_eq_false_iff_not]); (try intro hh); (repeat' apply And.intro) <;> (first | omega | (simp only [inR]; omega) | assumption | exact hh.1 | exact hh.2 | exact hh.2.1 | exact hh.2.2 | exact hh.1.1 | exact hh.1.2 | (intro hq; exact ⟨hh, hq⟩) | (intro hq; exact ⟨hh.1, hq⟩) | (simp_all; done)))))
    refine hK5 _ ?_
    clear hK5
    refine W_ret ?_
    simp only [thenQ, blockQ, loopQ, retQ, reduceIte, Nat.reduceEqDiff]
    refine ret0 ?_ rfl rfl (.inr rfl) rfl
    simp only [show Try.f9.results.toList = [ResultVar.tmp 2] from rfl, resAV, resL, look, Nat.reduceEqDiff, reduceIte, tyHull, tdHull, applyUps, noH, isStr, List.length_cons, List.length_nil, Nat.reduceAdd, and_self]
    all_goals (
      first | rfl | (refine congrArg (fun x => some (AV.bool x)) ?_; first | (simp_all; done)) | skip)
  · try simp only [decide_eq_true_eq, decide_eq_false_iff_not, ne_eq, Decidable.not_not, Bool.not_eq_true', Bool.not_eq_false', Bool.or_eq_true, Bool.and_eq_true, Bool.or_eq_false_iff, Bool.and_eq_false_iff] at hc4
    refine W_skip ?_
    simp only [thenQ, blockQ, loopQ, reduceIte, Nat.reduceEqDiff]
    refine hK2 _ ?_
    clear hK2
    refine W_seq (fun K6 hK6 => ?_)
    refine W_region hT hG [100069, 100072, 100075, 100078, 100079, 100080, 100083, 100084, 100085, 100088, 100089, 100090, 100091, 100094, 100095, 100096, 100097, 100098, 100099, 100102, 100103, 100104, 100105, 100106, 100107, 100110, 100111, 100112, 100113, 100114, 100115, 100116, 100117, 100118] [3, 4, 5] ?_
    rw [hnt]
    simp only [baseS, eq_self, implies_true, if_true, if_false, reduceIte, Nat.reduceBEq, Nat.reduceEqDiff, Nat.reduceLT, Nat.reduceAdd, reduceCtorEq, relC, callOK0, callOK1, fzE, c_spec_DrawSortRowsR, tyInt, tdInt, tyBytes, tdBytes, tyInts, tdInts, tyHull, tdHull, tyBoxes, tdBoxes, c_laws_sameInts, c_laws_alive, c_spec_SortRows, c_impl_SortRows, c_spec_DrawSortRows, c_impl_HeelOf, c_impl_TrimOf, c_impl_PlanValid, c_impl_OnLighter, c_impl_RowWeights, decide_false, room, Nat.reduceLeDiff, Nat.zero_le, storeAV, rowQ, ownInts, FT.of, FT.setf, elems, appAV_I, appI, srcI, ownI, anyI, sameR, appAV_P, appP, srcP, ownP, anyP, rowsAV, appAV, srcRows, srcFlat, reduceDIte, List.length_append, setAll, Option.isSome_some, List.drop_zero, Int.reduceToNat, List.set_cons_zero, List.set_cons_succ]
    repeat (refine And.intro ?_ ?_; focus (first | exact hpre.2 | (simp only [List.length_drop]; omega) | exact hb1 | exact hb2 | exact ⟨rfl, by omega⟩ | first | exact ordP (by kernel_rfl) | with_reducible exact rfl | assumption | trivial | (simp only [inR]; omega) | omega | exact ⟨by omega, by omega⟩ | exact ⟨by omega, by omega, by omega⟩ | ((try simp only [decide_eq_true_eq, Bool.and_eq_true, ne_eq, decide_not, Bool.not_eq_true', Bool.not_eq_false', Bool.or_eq_false_iff, Bool.not_not, decide_eq_false_iff_not]); (try intro hh); (repeat' apply And.intro) <;> (first | omega | (simp only [inR]; omega) | assumption | exact hh.1 | exact hh.2 | exact hh.2.1 | exact hh.2.2 | exact hh.1.1 | exact hh.1.2 | (intro hq; exact ⟨hh, hq⟩) | (intro hq; exact ⟨hh.1, hq⟩) | (simp_all; done)))))
    rintro _ ⟨y1, y2, y3, bs, pl, rfl, hbl, hpl⟩
    have hsl := sortR_le y1 y2 y3 bs pl
    have hb1 : bs.length ≤ 9223372036854775807 ∧ pl.length ≤ 9223372036854775807 := ⟨by omega, by omega⟩
    have hb2 : bs.length ≤ 9223372036854775807 ∧ (sortR y1 y2 y3 bs pl).length ≤ 9223372036854775807 := ⟨by omega, by omega⟩
    simp only [baseS, eq_self, implies_true, if_true, if_false, reduceIte, Nat.reduceBEq, Nat.reduceEqDiff, Nat.reduceLT, Nat.reduceAdd, reduceCtorEq, relC, callOK0, callOK1, fzE, c_spec_DrawSortRowsR, tyInt, tdInt, tyBytes, tdBytes, tyInts, tdInts, tyHull, tdHull, tyBoxes, tdBoxes, c_laws_sameInts, c_laws_alive, c_spec_SortRows, c_impl_SortRows, c_spec_DrawSortRows, c_impl_HeelOf, c_impl_TrimOf, c_impl_PlanValid, c_impl_OnLighter, c_impl_RowWeights, decide_false, room, Nat.reduceLeDiff, Nat.zero_le, storeAV, rowQ, ownInts, FT.of, FT.setf, elems, appAV_I, appI, srcI, ownI, anyI, sameR, appAV_P, appP, srcP, ownP, anyP, rowsAV, appAV, srcRows, srcFlat, reduceDIte, List.length_append, setAll, Option.isSome_some, List.drop_zero, Int.reduceToNat, List.set_cons_zero, List.set_cons_succ]
    repeat (refine And.intro ?_ ?_; focus (first | exact hpre.2 | (simp only [List.length_drop]; omega) | exact hb1 | exact hb2 | exact ⟨rfl, by omega⟩ | first | exact ordP (by kernel_rfl) | with_reducible exact rfl | assumption | trivial | (simp only [inR]; omega) | omega | exact ⟨by omega, by omega⟩ | exact ⟨by omega, by omega, by omega⟩ | ((try simp only [decide_eq_true_eq, Bool.and_eq_true, ne_eq, decide_not, Bool.not_eq_true', Bool.not_eq_false', Bool.or_eq_false_iff, Bool.not_not, decide_eq_false_iff_not]); (try intro hh); (repeat' apply And.intro) <;> (first | omega | (simp only [inR]; omega) | assumption | exact hh.1 | exact hh.2 | exact hh.2.1 | exact hh.2.2 | exact hh.1.1 | exact hh.1.2 | (intro hq; exact ⟨hh, hq⟩) | (intro hq; exact ⟨hh.1, hq⟩) | (simp_all; done)))))
    refine hK6 _ ?_
    clear hK6
    refine W_seq (fun K7 hK7 => ?_)
    refine W_region hT hG [100069, 100072, 100075, 100078, 100079, 100080, 100083, 100084, 100085, 100088, 100089, 100090, 100091, 100094, 100095, 100096, 100097, 100098, 100099, 100102, 100103, 100104, 100105, 100106, 100107, 100110, 100111, 100112, 100113, 100114, 100115, 100116, 100117, 100118] [3, 4, 5, 6] ?_
    rw [hnt]
    simp only [baseS, eq_self, implies_true, if_true, if_false, reduceIte, Nat.reduceBEq, Nat.reduceEqDiff, Nat.reduceLT, Nat.reduceAdd, reduceCtorEq, relC, callOK0, callOK1, fzE, c_spec_DrawSortRowsR, tyInt, tdInt, tyBytes, tdBytes, tyInts, tdInts, tyHull, tdHull, tyBoxes, tdBoxes, c_laws_sameInts, c_laws_alive, c_spec_SortRows, c_impl_SortRows, c_spec_DrawSortRows, c_impl_HeelOf, c_impl_TrimOf, c_impl_PlanValid, c_impl_OnLighter, c_impl_RowWeights, decide_false, room, Nat.reduceLeDiff, Nat.zero_le, storeAV, rowQ, ownInts, FT.of, FT.setf, elems, appAV_I, appI, srcI, ownI, anyI, sameR, appAV_P, appP, srcP, ownP, anyP, rowsAV, appAV, srcRows, srcFlat, reduceDIte, List.length_append, setAll, Option.isSome_some, List.drop_zero, Int.reduceToNat, List.set_cons_zero, List.set_cons_succ]
    repeat (refine And.intro ?_ ?_; focus (first | exact hpre.2 | (simp only [List.length_drop]; omega) | exact hb1 | exact hb2 | exact ⟨rfl, by omega⟩ | first | exact ordP (by kernel_rfl) | with_reducible exact rfl | assumption | trivial | (simp only [inR]; omega) | omega | exact ⟨by omega, by omega⟩ | exact ⟨by omega, by omega, by omega⟩ | ((try simp only [decide_eq_true_eq, Bool.and_eq_true, ne_eq, decide_not, Bool.not_eq_true', Bool.not_eq_false', Bool.or_eq_false_iff, Bool.not_not, decide_eq_false_iff_not]); (try intro hh); (repeat' apply And.intro) <;> (first | omega | (simp only [inR]; omega) | assumption | exact hh.1 | exact hh.2 | exact hh.2.1 | exact hh.2.2 | exact hh.1.1 | exact hh.1.2 | (intro hq; exact ⟨hh, hq⟩) | (intro hq; exact ⟨hh.1, hq⟩) | (simp_all; done)))))
    refine hK7 _ ?_
    clear hK7
    refine W_seq (fun K8 hK8 => ?_)
    refine W_seq (fun K9 hK9 => ?_)
    refine W_region hT hG [100069, 100072, 100075, 100078, 100079, 100080, 100083, 100084, 100085, 100088, 100089, 100090, 100091, 100094, 100095, 100096, 100097, 100098, 100099, 100102, 100103, 100104, 100105, 100106, 100107, 100110, 100111, 100112, 100113, 100114, 100115, 100116, 100117, 100118] [3, 4, 5, 6, 34] ?_
    rw [hnt]
    simp only [baseS, eq_self, implies_true, if_true, if_false, reduceIte, Nat.reduceBEq, Nat.reduceEqDiff, Nat.reduceLT, Nat.reduceAdd, reduceCtorEq, relC, callOK0, callOK1, fzE, c_spec_DrawSortRowsR, tyInt, tdInt, tyBytes, tdBytes, tyInts, tdInts, tyHull, tdHull, tyBoxes, tdBoxes, c_laws_sameInts, c_laws_alive, c_spec_SortRows, c_impl_SortRows, c_spec_DrawSortRows, c_impl_HeelOf, c_impl_TrimOf, c_impl_PlanValid, c_impl_OnLighter, c_impl_RowWeights, decide_false, room, Nat.reduceLeDiff, Nat.zero_le, storeAV, rowQ, ownInts, FT.of, FT.setf, elems, appAV_I, appI, srcI, ownI, anyI, sameR, appAV_P, appP, srcP, ownP, anyP, rowsAV, appAV, srcRows, srcFlat, reduceDIte, List.length_append, setAll, Option.isSome_some, List.drop_zero, Int.reduceToNat, List.set_cons_zero, List.set_cons_succ]
    repeat (refine And.intro ?_ ?_; focus (first | exact hpre.2 | (simp only [List.length_drop]; omega) | exact hb1 | exact hb2 | exact ⟨rfl, by omega⟩ | first | exact ordP (by kernel_rfl) | with_reducible exact rfl | assumption | trivial | (simp only [inR]; omega) | omega | exact ⟨by omega, by omega⟩ | exact ⟨by omega, by omega, by omega⟩ | ((try simp only [decide_eq_true_eq, Bool.and_eq_true, ne_eq, decide_not, Bool.not_eq_true', Bool.not_eq_false', Bool.or_eq_false_iff, Bool.not_not, decide_eq_false_iff_not]); (try intro hh); (repeat' apply And.intro) <;> (first | omega | (simp only [inR]; omega) | assumption | exact hh.1 | exact hh.2 | exact hh.2.1 | exact hh.2.2 | exact hh.1.1 | exact hh.1.2 | (intro hq; exact ⟨hh, hq⟩) | (intro hq; exact ⟨hh.1, hq⟩) | (simp_all; done)))))
    refine hK9 _ ?_
    clear hK9
    refine W_cond (b := _) rfl (fun hc10 => ?_) (fun hc10 => ?_)
    · try simp only [decide_eq_true_eq, decide_eq_false_iff_not, ne_eq, Decidable.not_not, Bool.not_eq_true', Bool.not_eq_false', Bool.or_eq_true, Bool.and_eq_true, Bool.or_eq_false_iff, Bool.and_eq_false_iff] at hc10
      first | exact absurd rfl hc10 | (simp at hc10; done) | exact absurd trivial hc10
    · try simp only [decide_eq_true_eq, decide_eq_false_iff_not, ne_eq, Decidable.not_not, Bool.not_eq_true', Bool.not_eq_false', Bool.or_eq_true, Bool.and_eq_true, Bool.or_eq_false_iff, Bool.and_eq_false_iff] at hc10
      refine W_skip ?_
      simp only [thenQ, blockQ, loopQ, reduceIte, Nat.reduceEqDiff]
      refine hK8 _ ?_
      clear hK8
      refine W_seq (fun K11 hK11 => ?_)
      refine W_seq (fun K12 hK12 => ?_)
      refine W_region hT hG [100069, 100072, 100075, 100078, 100079, 100080, 100083, 100084, 100085, 100088, 100089, 100090, 100091, 100094, 100095, 100096, 100097, 100098, 100099, 100102, 100103, 100104, 100105, 100106, 100107, 100110, 100111, 100112, 100113, 100114, 100115, 100116, 100117, 100118] [3, 4, 5, 6, 37] ?_
      rw [hnt]
      simp only [baseS, eq_self, implies_true, if_true, if_false, reduceIte, Nat.reduceBEq, Nat.reduceEqDiff, Nat.reduceLT, Nat.reduceAdd, reduceCtorEq, relC, callOK0, callOK1, fzE, c_spec_DrawSortRowsR, tyInt, tdInt, tyBytes, tdBytes, tyInts, tdInts, tyHull, tdHull, tyBoxes, tdBoxes, c_laws_sameInts, c_laws_alive, c_spec_SortRows, c_impl_SortRows, c_spec_DrawSortRows, c_impl_HeelOf, c_impl_TrimOf, c_impl_PlanValid, c_impl_OnLighter, c_impl_RowWeights, decide_false, room, Nat.reduceLeDiff, Nat.zero_le, storeAV, rowQ, ownInts, FT.of, FT.setf, elems, appAV_I, appI, srcI, ownI, anyI, sameR, appAV_P, appP, srcP, ownP, anyP, rowsAV, appAV, srcRows, srcFlat, reduceDIte, List.length_append, setAll, Option.isSome_some, List.drop_zero, Int.reduceToNat, List.set_cons_zero, List.set_cons_succ]
      repeat (refine And.intro ?_ ?_; focus (first | exact hpre.2 | (simp only [List.length_drop]; omega) | exact hb1 | exact hb2 | exact ⟨rfl, by omega⟩ | first | exact ordP (by kernel_rfl) | with_reducible exact rfl | assumption | trivial | (simp only [inR]; omega) | omega | exact ⟨by omega, by omega⟩ | exact ⟨by omega, by omega, by omega⟩ | ((try simp only [decide_eq_true_eq, Bool.and_eq_true, ne_eq, decide_not, Bool.not_eq_true', Bool.not_eq_false', Bool.or_eq_false_iff, Bool.not_not, decide_eq_false_iff_not]); (try intro hh); (repeat' apply And.intro) <;> (first | omega | (simp only [inR]; omega) | assumption | exact hh.1 | exact hh.2 | exact hh.2.1 | exact hh.2.2 | exact hh.1.1 | exact hh.1.2 | (intro hq; exact ⟨hh, hq⟩) | (intro hq; exact ⟨hh.1, hq⟩) | (simp_all; done)))))
      refine hK12 _ ?_
      clear hK12
      refine W_cond (b := _) rfl (fun hc13 => ?_) (fun hc13 => ?_)
      · try simp only [decide_eq_true_eq, decide_eq_false_iff_not, ne_eq, Decidable.not_not, Bool.not_eq_true', Bool.not_eq_false', Bool.or_eq_true, Bool.and_eq_true, Bool.or_eq_false_iff, Bool.and_eq_false_iff] at hc13
        refine W_seq (fun K14 hK14 => ?_)
        refine W_region hT hG [100069, 100072, 100075, 100078, 100079, 100080, 100083, 100084, 100085, 100088, 100089, 100090, 100091, 100094, 100095, 100096, 100097, 100098, 100099, 100102, 100103, 100104, 100105, 100106, 100107, 100110, 100111, 100112, 100113, 100114, 100115, 100116, 100117, 100118] [2] ?_
        rw [hnt]
        simp only [baseS, eq_self, implies_true, if_true, if_false, reduceIte, Nat.reduceBEq, Nat.reduceEqDiff, Nat.reduceLT, Nat.reduceAdd, reduceCtorEq, relC, callOK0, callOK1, fzE, c_spec_DrawSortRowsR, tyInt, tdInt, tyBytes, tdBytes, tyInts, tdInts, tyHull, tdHull, tyBoxes, tdBoxes, c_laws_sameInts, c_laws_alive, c_spec_SortRows, c_impl_SortRows, c_spec_DrawSortRows, c_impl_HeelOf, c_impl_TrimOf, c_impl_PlanValid, c_impl_OnLighter, c_impl_RowWeights, decide_false, room, Nat.reduceLeDiff, Nat.zero_le, storeAV, rowQ, ownInts, FT.of, FT.setf, elems, appAV_I, appI, srcI, ownI, anyI, sameR, appAV_P, appP, srcP, ownP, anyP, rowsAV, appAV, srcRows, srcFlat, reduceDIte, List.length_append, setAll, Option.isSome_some, List.drop_zero, Int.reduceToNat, List.set_cons_zero, List.set_cons_succ]
        repeat (refine And.intro ?_ ?_; focus (first | exact hpre.2 | (simp only [List.length_drop]; omega) | exact hb1 | exact hb2 | exact ⟨rfl, by omega⟩ | first | exact ordP (by kernel_rfl) | with_reducible exact rfl | assumption | trivial | (simp only [inR]; omega) | omega | exact ⟨by omega, by omega⟩ | exact ⟨by omega, by omega, by omega⟩ | ((try simp only [decide_eq_true_eq, Bool.and_eq_true, ne_eq, decide_not, Bool.not_eq_true', Bool.not_eq_false', Bool.or_eq_false_iff, Bool.not_not, decide_eq_false_iff_not]); (try intro hh); (repeat' apply And.intro) <;> (first | omega | (simp only [inR]; omega) | assumption | exact hh.1 | exact hh.2 | exact hh.2.1 | exact hh.2.2 | exact hh.1.1 | exact hh.1.2 | (intro hq; exact ⟨hh, hq⟩) | (intro hq; exact ⟨hh.1, hq⟩) | (simp_all; done)))))
        refine hK14 _ ?_
        clear hK14
        refine W_ret ?_
        simp only [thenQ, blockQ, loopQ, retQ, reduceIte, Nat.reduceEqDiff]
        refine ret0 ?_ rfl rfl (.inr rfl) rfl
        simp only [show Try.f9.results.toList = [ResultVar.tmp 2] from rfl, resAV, resL, look, Nat.reduceEqDiff, reduceIte, tyHull, tdHull, applyUps, noH, isStr, List.length_cons, List.length_nil, Nat.reduceAdd, and_self]
        all_goals (
          first | rfl | (refine congrArg (fun x => some (AV.bool x)) ?_; first | (simp_all; done)) | skip)
      · try simp only [decide_eq_true_eq, decide_eq_false_iff_not, ne_eq, Decidable.not_not, Bool.not_eq_true', Bool.not_eq_false', Bool.or_eq_true, Bool.and_eq_true, Bool.or_eq_false_iff, Bool.and_eq_false_iff] at hc13
        refine W_skip ?_
        simp only [thenQ, blockQ, loopQ, reduceIte, Nat.reduceEqDiff]
        refine hK11 _ ?_
        clear hK11
        refine W_seq (fun K15 hK15 => ?_)
        refine W_region hT hG [100069, 100072, 100075, 100078, 100079, 100080, 100083, 100084, 100085, 100088, 100089, 100090, 100091, 100094, 100095, 100096, 100097, 100098, 100099, 100102, 100103, 100104, 100105, 100106, 100107, 100110, 100111, 100112, 100113, 100114, 100115, 100116, 100117, 100118] [3, 4, 5, 6, 7, 8] ?_
        rw [hnt]
        have hpB := sort_none hc13
        simp only [baseS, eq_self, implies_true, if_true, if_false, reduceIte, Nat.reduceBEq, Nat.reduceEqDiff, Nat.reduceLT, Nat.reduceAdd, reduceCtorEq, relC, callOK0, callOK1, fzE, c_spec_DrawSortRowsR, tyInt, tdInt, tyBytes, tdBytes, tyInts, tdInts, tyHull, tdHull, tyBoxes, tdBoxes, c_laws_sameInts, c_laws_alive, c_spec_SortRows, c_impl_SortRows, c_spec_DrawSortRows, c_impl_HeelOf, c_impl_TrimOf, c_impl_PlanValid, c_impl_OnLighter, c_impl_RowWeights, decide_false, room, Nat.reduceLeDiff, Nat.zero_le, storeAV, rowQ, ownInts, FT.of, FT.setf, elems, appAV_I, appI, srcI, ownI, anyI, sameR, appAV_P, appP, srcP, ownP, anyP, rowsAV, appAV, srcRows, srcFlat, reduceDIte, List.length_append, setAll, Option.isSome_some, List.drop_zero, Int.reduceToNat, List.set_cons_zero, List.set_cons_succ]
        repeat (refine And.intro ?_ ?_; focus (first | exact hpre.2 | (simp only [List.length_drop]; omega) | exact hb1 | exact hb2 | exact ⟨rfl, by omega⟩ | first | exact ordP (by kernel_rfl) | with_reducible exact rfl | assumption | trivial | (simp only [inR]; omega) | omega | exact ⟨by omega, by omega⟩ | exact ⟨by omega, by omega, by omega⟩ | ((try simp only [decide_eq_true_eq, Bool.and_eq_true, ne_eq, decide_not, Bool.not_eq_true', Bool.not_eq_false', Bool.or_eq_false_iff, Bool.not_not, decide_eq_false_iff_not]); (try intro hh); (repeat' apply And.intro) <;> (first | omega | (simp only [inR]; omega) | assumption | exact hh.1 | exact hh.2 | exact hh.2.1 | exact hh.2.2 | exact hh.1.1 | exact hh.1.2 | (intro hq; exact ⟨hh, hq⟩) | (intro hq; exact ⟨hh.1, hq⟩) | (simp_all; done)))))
        refine hK15 _ ?_
        clear hK15
        refine W_seq (fun K16 hK16 => ?_)
        refine W_region hT hG [100069, 100072, 100075, 100078, 100079, 100080, 100083, 100084, 100085, 100088, 100089, 100090, 100091, 100094, 100095, 100096, 100097, 100098, 100099, 100102, 100103, 100104, 100105, 100106, 100107, 100110, 100111, 100112, 100113, 100114, 100115, 100116, 100117, 100118] [3, 4, 5, 6, 7, 8, 9, 10] ?_
        rw [hnt]
        simp only [baseS, eq_self, implies_true, if_true, if_false, reduceIte, Nat.reduceBEq, Nat.reduceEqDiff, Nat.reduceLT, Nat.reduceAdd, reduceCtorEq, relC, callOK0, callOK1, fzE, c_spec_DrawSortRowsR, tyInt, tdInt, tyBytes, tdBytes, tyInts, tdInts, tyHull, tdHull, tyBoxes, tdBoxes, c_laws_sameInts, c_laws_alive, c_spec_SortRows, c_impl_SortRows, c_spec_DrawSortRows, c_impl_HeelOf, c_impl_TrimOf, c_impl_PlanValid, c_impl_OnLighter, c_impl_RowWeights, decide_false, room, Nat.reduceLeDiff, Nat.zero_le, storeAV, rowQ, ownInts, FT.of, FT.setf, elems, appAV_I, appI, srcI, ownI, anyI, sameR, appAV_P, appP, srcP, ownP, anyP, rowsAV, appAV, srcRows, srcFlat, reduceDIte, List.length_append, setAll, Option.isSome_some, List.drop_zero, Int.reduceToNat, List.set_cons_zero, List.set_cons_succ]
        repeat (refine And.intro ?_ ?_; focus (first | exact hpre.2 | (simp only [List.length_drop]; omega) | exact hb1 | exact hb2 | exact ⟨rfl, by omega⟩ | first | exact ordP (by kernel_rfl) | with_reducible exact rfl | assumption | trivial | (simp only [inR]; omega) | omega | exact ⟨by omega, by omega⟩ | exact ⟨by omega, by omega, by omega⟩ | ((try simp only [decide_eq_true_eq, Bool.and_eq_true, ne_eq, decide_not, Bool.not_eq_true', Bool.not_eq_false', Bool.or_eq_false_iff, Bool.not_not, decide_eq_false_iff_not]); (try intro hh); (repeat' apply And.intro) <;> (first | omega | (simp only [inR]; omega) | assumption | exact hh.1 | exact hh.2 | exact hh.2.1 | exact hh.2.2 | exact hh.1.1 | exact hh.1.2 | (intro hq; exact ⟨hh, hq⟩) | (intro hq; exact ⟨hh.1, hq⟩) | (simp_all; done)))))
        refine hK16 _ ?_
        clear hK16
        refine W_seq (fun K17 hK17 => ?_)
        refine W_region hT hG [100069, 100072, 100075, 100078, 100079, 100080, 100083, 100084, 100085, 100088, 100089, 100090, 100091, 100094, 100095, 100096, 100097, 100098, 100099, 100102, 100103, 100104, 100105, 100106, 100107, 100110, 100111, 100112, 100113, 100114, 100115, 100116, 100117, 100118] [3, 4, 5, 6, 7, 8, 9, 10, 11, 12] ?_
        rw [hnt]
        simp only [baseS, eq_self, implies_true, if_true, if_false, reduceIte, Nat.reduceBEq, Nat.reduceEqDiff, Nat.reduceLT, Nat.reduceAdd, reduceCtorEq, relC, callOK0, callOK1, fzE, c_spec_DrawSortRowsR, tyInt, tdInt, tyBytes, tdBytes, tyInts, tdInts, tyHull, tdHull, tyBoxes, tdBoxes, c_laws_sameInts, c_laws_alive, c_spec_SortRows, c_impl_SortRows, c_spec_DrawSortRows, c_impl_HeelOf, c_impl_TrimOf, c_impl_PlanValid, c_impl_OnLighter, c_impl_RowWeights, decide_false, room, Nat.reduceLeDiff, Nat.zero_le, storeAV, rowQ, ownInts, FT.of, FT.setf, elems, appAV_I, appI, srcI, ownI, anyI, sameR, appAV_P, appP, srcP, ownP, anyP, rowsAV, appAV, srcRows, srcFlat, reduceDIte, List.length_append, setAll, Option.isSome_some, List.drop_zero, Int.reduceToNat, List.set_cons_zero, List.set_cons_succ]
        repeat (refine And.intro ?_ ?_; focus (first | exact hpre.2 | (simp only [List.length_drop]; omega) | exact hb1 | exact hb2 | exact ⟨rfl, by omega⟩ | first | exact ordP (by kernel_rfl) | with_reducible exact rfl | assumption | trivial | (simp only [inR]; omega) | omega | exact ⟨by omega, by omega⟩ | exact ⟨by omega, by omega, by omega⟩ | ((try simp only [decide_eq_true_eq, Bool.and_eq_true, ne_eq, decide_not, Bool.not_eq_true', Bool.not_eq_false', Bool.or_eq_false_iff, Bool.not_not, decide_eq_false_iff_not]); (try intro hh); (repeat' apply And.intro) <;> (first | omega | (simp only [inR]; omega) | assumption | exact hh.1 | exact hh.2 | exact hh.2.1 | exact hh.2.2 | exact hh.1.1 | exact hh.1.2 | (intro hq; exact ⟨hh, hq⟩) | (intro hq; exact ⟨hh.1, hq⟩) | (simp_all; done)))))
        refine hK17 _ ?_
        clear hK17
        refine W_seq (fun K18 hK18 => ?_)
        refine W_region hT hG [100069, 100072, 100075, 100078, 100079, 100080, 100083, 100084, 100085, 100088, 100089, 100090, 100091, 100094, 100095, 100096, 100097, 100098, 100099, 100102, 100103, 100104, 100105, 100106, 100107, 100110, 100111, 100112, 100113, 100114, 100115, 100116, 100117, 100118] [3, 4, 5, 6, 7, 8, 9, 10, 11, 12, 13, 14] ?_
        rw [hnt]
        simp only [baseS, eq_self, implies_true, if_true, if_false, reduceIte, Nat.reduceBEq, Nat.reduceEqDiff, Nat.reduceLT, Nat.reduceAdd, reduceCtorEq, relC, callOK0, callOK1, fzE, c_spec_DrawSortRowsR, tyInt, tdInt, tyBytes, tdBytes, tyInts, tdInts, tyHull, tdHull, tyBoxes, tdBoxes, c_laws_sameInts, c_laws_alive, c_spec_SortRows, c_impl_SortRows, c_spec_DrawSortRows, c_impl_HeelOf, c_impl_TrimOf, c_impl_PlanValid, c_impl_OnLighter, c_impl_RowWeights, decide_false, room, Nat.reduceLeDiff, Nat.zero_le, storeAV, rowQ, ownInts, FT.of, FT.setf, elems, appAV_I, appI, srcI, ownI, anyI, sameR, appAV_P, appP, srcP, ownP, anyP, rowsAV, appAV, srcRows, srcFlat, reduceDIte, List.length_append, setAll, Option.isSome_some, List.drop_zero, Int.reduceToNat, List.set_cons_zero, List.set_cons_succ]
        repeat (refine And.intro ?_ ?_; focus (first | exact hpre.2 | (simp only [List.length_drop]; omega) | exact hb1 | exact hb2 | exact ⟨rfl, by omega⟩ | first | exact ordP (by kernel_rfl) | with_reducible exact rfl | assumption | trivial | (simp only [inR]; omega) | omega | exact ⟨by omega, by omega⟩ | exact ⟨by omega, by omega, by omega⟩ | ((try simp only [decide_eq_true_eq, Bool.and_eq_true, ne_eq, decide_not, Bool.not_eq_true', Bool.not_eq_false', Bool.or_eq_false_iff, Bool.not_not, decide_eq_false_iff_not]); (try intro hh); (repeat' apply And.intro) <;> (first | omega | (simp only [inR]; omega) | assumption | exact hh.1 | exact hh.2 | exact hh.2.1 | exact hh.2.2 | exact hh.1.1 | exact hh.1.2 | (intro hq; exact ⟨hh, hq⟩) | (intro hq; exact ⟨hh.1, hq⟩) | (simp_all; done)))))
        refine hK18 _ ?_
        clear hK18
        refine W_seq (fun K19 hK19 => ?_)
        refine W_region_draw hT hG (by rw [hP]; exact draws_ok) [100069, 100072, 100075, 100078, 100079, 100080, 100083, 100084, 100085, 100088, 100089, 100090, 100091, 100094, 100095, 100096, 100097, 100098, 100099, 100102, 100103, 100104, 100105, 100106, 100107, 100110, 100111, 100112, 100113, 100114, 100115, 100116, 100117, 100118] [2] ?_
        rw [hnt]
        obtain ⟨hpS, hhe, htr, hlg, hid, hrw⟩ := sort_facts hpB
        have hrl := rowsR_le y1 y2 y3 bs pl
        simp only [baseS, eq_self, implies_true, if_true, if_false, reduceIte, Nat.reduceBEq, Nat.reduceEqDiff, Nat.reduceLT, Nat.reduceAdd, reduceCtorEq, relC, callOK0, callOK1, fzE, c_spec_DrawSortRowsR, tyInt, tdInt, tyBytes, tdBytes, tyInts, tdInts, tyHull, tdHull, tyBoxes, tdBoxes, c_laws_sameInts, c_laws_alive, c_spec_SortRows, c_impl_SortRows, c_spec_DrawSortRows, c_impl_HeelOf, c_impl_TrimOf, c_impl_PlanValid, c_impl_OnLighter, c_impl_RowWeights, decide_false, room, Nat.reduceLeDiff, Nat.zero_le, storeAV, rowQ, ownInts, FT.of, FT.setf, elems, appAV_I, appI, srcI, ownI, anyI, sameR, appAV_P, appP, srcP, ownP, anyP, rowsAV, appAV, srcRows, srcFlat, reduceDIte, List.length_append, setAll, Option.isSome_some, List.drop_zero, Int.reduceToNat, List.set_cons_zero, List.set_cons_succ, hpB, hpS, hhe, htr, hlg, hid, hrw, decide_true]
        repeat (refine And.intro ?_ ?_; focus (first | exact hpre.2 | (simp only [List.length_drop]; omega) | exact hb1 | exact hb2 | exact ⟨rfl, by omega⟩ | first | exact ordP (by kernel_rfl) | with_reducible exact rfl | assumption | trivial | (simp only [inR]; omega) | omega | exact ⟨by omega, by omega⟩ | exact ⟨by omega, by omega, by omega⟩ | ((try simp only [decide_eq_true_eq, Bool.and_eq_true, ne_eq, decide_not, Bool.not_eq_true', Bool.not_eq_false', Bool.or_eq_false_iff, Bool.not_not, decide_eq_false_iff_not]); (try intro hh); (repeat' apply And.intro) <;> (first | omega | (simp only [inR]; omega) | assumption | exact hh.1 | exact hh.2 | exact hh.2.1 | exact hh.2.2 | exact hh.1.1 | exact hh.1.2 | (intro hq; exact ⟨hh, hq⟩) | (intro hq; exact ⟨hh.1, hq⟩) | (simp_all; done)))))
        refine hK19 _ ?_
        clear hK19
        refine W_ret ?_
        simp only [thenQ, blockQ, loopQ, retQ, reduceIte, Nat.reduceEqDiff]
        refine ret0 ?_ rfl rfl (.inr rfl) rfl
        simp only [show Try.f9.results.toList = [ResultVar.tmp 2] from rfl, resAV, resL, look, Nat.reduceEqDiff, reduceIte, tyHull, tdHull, applyUps, noH, isStr, List.length_cons, List.length_nil, Nat.reduceAdd, and_self]
        all_goals (
          first | rfl | (refine congrArg (fun x => some (AV.bool x)) ?_; first | (simp_all; done)) | skip)

end Go.Proofs.Ytpiaeckkjdcifaa
