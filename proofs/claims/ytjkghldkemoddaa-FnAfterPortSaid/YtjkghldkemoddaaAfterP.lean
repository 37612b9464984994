/- Walks over plans behind a port. No condition. -/
import Derived.Test.YtjkghldkemoddaaPortA
namespace Go.Proofs.Ytjkghldkemoddaa
open Go
set_option linter.unusedVariables false
set_option linter.unusedSimpArgs false

def c_impl_AfterPort : Ctr where
  modes := [.v .p, .v (.r .box), .v (.r .i64), .v .p]
  al := false
  run := fun xs os => match xs, os with
    | [.agg [.int b, .int r, .int t], .rs .box bs, .rs .i64 p, .int port], [] => some ⟨bs.length ≤ 9223372036854775807 ∧ p.length ≤ 9223372036854775807, .sl 0, [.sl 3 .i64 (aftR b r t bs p port)], []⟩
    | _, _ => none
theorem m_impl_AfterPort : Meets Try.prog 47 c_impl_AfterPort := by
  refine meets_of (T := tyT) tyOK Try.func47 (by rfl) rfl (by decide) ?_
  intro args owns R hrun hpre
  simp only [c_impl_AfterPort] at hrun
  split at hrun
  case h_2 => cases hrun
  rename_i b r t bs p port
  cases hrun
  try dsimp only at hpre
  refine ⟨_, rfl, fun E hP hnt hnp => ?_⟩
  replace hnt : E.nt = 55 := hnt
  replace hnp : E.np = 4 := hnp
  have hT : ∀ t d, tyT t = some d → TyOK E.P t d := hP ▸ tyOK
  have hG : ∀ f C, Γof [(51, c_impl_PlanValid), (75, c_impl_within), (76, c_impl_Hull_tier), (90, c_impl_portAt)] f = some C → Meets E.P f C := hΓof (by rw [hP]; exact ⟨m_impl_PlanValid, m_impl_within, m_impl_Hull_tier, m_impl_portAt, trivial⟩)
  try simp only [show Try.f47.ntmps = 55 from rfl]
  have hbs := hpre.1
  have hp := hpre.2
  refine W_seq (fun K1 hK1 => ?_)
  refine W_region hT hG [] [1, 2, 3, 4] ?_
  rw [hnt]
  simp only [baseS, eq_self, implies_true, if_true, if_false, reduceIte, Nat.reduceBEq, Nat.reduceEqDiff, Nat.reduceLT, Nat.reduceAdd, reduceCtorEq, tyInt, tdInt, tyHull, tdHull, tyBoxes, tdBoxes, tyInts, tdInts, c_impl_PlanValid, c_impl_within, c_impl_Hull_tier, c_impl_portAt, decide_false, room, Nat.reduceLeDiff, Nat.zero_le, storeAV, rowQ, ownInts, FT.of, FT.setf, elems, appAV_I, appI, srcI, ownI, anyI, sameR, appAV_P, appP, srcP, ownP, anyP]
  repeat (refine And.intro ?_ ?_; focus (first | exact ordP (by kernel_rfl) | with_reducible exact rfl | assumption | trivial | (simp only [inR]; omega) | omega | exact ⟨by omega, by omega⟩ | exact ⟨by omega, by omega, by omega⟩ | exact ⟨by omega, ⟨by omega, by omega⟩, by assumption⟩ | exact ⟨by omega, by assumption⟩ | exact hfindj (by omega) | exact hfind (by omega) | exact ⟨by omega, hfind (by omega)⟩ | ((try simp only [decide_eq_true_eq, Bool.and_eq_true, ne_eq, decide_not, Bool.not_eq_true', Bool.not_eq_false', Bool.or_eq_false_iff, Bool.not_not, decide_eq_false_iff_not]); (try intro hh); (repeat' apply And.intro) <;> (first | omega | (simp only [inR]; omega) | assumption | exact ⟨by omega, ⟨by omega, by omega⟩, by assumption⟩ | exact ⟨by omega, by assumption⟩ | exact hfindj (by omega) | exact hfind (by omega) | exact ⟨by omega, hfind (by omega)⟩ | exact hh.1 | exact hh.2 | exact hh.2.1 | exact hh.2.2 | exact hh.1.1 | exact hh.1.2 | (intro hq; exact ⟨hh, hq⟩) | (intro hq; exact ⟨hh.1, hq⟩) | (simp_all; done)))))
  refine hK1 _ ?_
  clear hK1
  refine W_seq (fun K2 hK2 => ?_)
  refine W_seq (fun K3 hK3 => ?_)
  refine W_region hT hG [] [1, 2, 3, 4, 22] ?_
  rw [hnt]
  simp only [baseS, eq_self, implies_true, if_true, if_false, reduceIte, Nat.reduceBEq, Nat.reduceEqDiff, Nat.reduceLT, Nat.reduceAdd, reduceCtorEq, tyInt, tdInt, tyHull, tdHull, tyBoxes, tdBoxes, tyInts, tdInts, c_impl_PlanValid, c_impl_within, c_impl_Hull_tier, c_impl_portAt, decide_false, room, Nat.reduceLeDiff, Nat.zero_le, storeAV, rowQ, ownInts, FT.of, FT.setf, elems, appAV_I, appI, srcI, ownI, anyI, sameR, appAV_P, appP, srcP, ownP, anyP]
  repeat (refine And.intro ?_ ?_; focus (first | exact ordP (by kernel_rfl) | with_reducible exact rfl | assumption | trivial | (simp only [inR]; omega) | omega | exact ⟨by omega, by omega⟩ | exact ⟨by omega, by omega, by omega⟩ | exact ⟨by omega, ⟨by omega, by omega⟩, by assumption⟩ | exact ⟨by omega, by assumption⟩ | exact hfindj (by omega) | exact hfind (by omega) | exact ⟨by omega, hfind (by omega)⟩ | ((try simp only [decide_eq_true_eq, Bool.and_eq_true, ne_eq, decide_not, Bool.not_eq_true', Bool.not_eq_false', Bool.or_eq_false_iff, Bool.not_not, decide_eq_false_iff_not]); (try intro hh); (repeat' apply And.intro) <;> (first | omega | (simp only [inR]; omega) | assumption | exact ⟨by omega, ⟨by omega, by omega⟩, by assumption⟩ | exact ⟨by omega, by assumption⟩ | exact hfindj (by omega) | exact hfind (by omega) | exact ⟨by omega, hfind (by omega)⟩ | exact hh.1 | exact hh.2 | exact hh.2.1 | exact hh.2.2 | exact hh.1.1 | exact hh.1.2 | (intro hq; exact ⟨hh, hq⟩) | (intro hq; exact ⟨hh.1, hq⟩) | (simp_all; done)))))
  refine hK3 _ ?_
  clear hK3
  refine W_cond (b := _) rfl (fun hc4 => ?_) (fun hc4 => ?_)
  · try simp only [decide_eq_true_eq, decide_eq_false_iff_not, ne_eq, Decidable.not_not, Bool.not_eq_true', Bool.not_eq_false', Bool.or_eq_true, Bool.and_eq_true, Bool.or_eq_false_iff, Bool.and_eq_false_iff] at hc4
    refine W_seq (fun K5 hK5 => ?_)
    refine W_region hT hG [] [8] ?_
    rw [hnt]
    simp only [baseS, eq_self, implies_true, if_true, if_false, reduceIte, Nat.reduceBEq, Nat.reduceEqDiff, Nat.reduceLT, Nat.reduceAdd, reduceCtorEq, tyInt, tdInt, tyHull, tdHull, tyBoxes, tdBoxes, tyInts, tdInts, c_impl_PlanValid, c_impl_within, c_impl_Hull_tier, c_impl_portAt, decide_false, room, Nat.reduceLeDiff, Nat.zero_le, storeAV, rowQ, ownInts, FT.of, FT.setf, elems, appAV_I, appI, srcI, ownI, anyI, sameR, appAV_P, appP, srcP, ownP, anyP]
    repeat (refine And.intro ?_ ?_; focus (first | exact ordP (by kernel_rfl) | with_reducible exact rfl | assumption | trivial | (simp only [inR]; omega) | omega | exact ⟨by omega, by omega⟩ | exact ⟨by omega, by omega, by omega⟩ | exact ⟨by omega, ⟨by omega, by omega⟩, by assumption⟩ | exact ⟨by omega, by assumption⟩ | exact hfindj (by omega) | exact hfind (by omega) | exact ⟨by omega, hfind (by omega)⟩ | ((try simp only [decide_eq_true_eq, Bool.and_eq_true, ne_eq, decide_not, Bool.not_eq_true', Bool.not_eq_false', Bool.or_eq_false_iff, Bool.not_not, decide_eq_false_iff_not]); (try intro hh); (repeat' apply And.intro) <;> (first | omega | (simp only [inR]; omega) | assumption | exact ⟨by omega, ⟨by omega, by omega⟩, by assumption⟩ | exact ⟨by omega, by assumption⟩ | exact hfindj (by omega) | exact hfind (by omega) | exact ⟨by omega, hfind (by omega)⟩ | exact hh.1 | exact hh.2 | exact hh.2.1 | exact hh.2.2 | exact hh.1.1 | exact hh.1.2 | (intro hq; exact ⟨hh, hq⟩) | (intro hq; exact ⟨hh.1, hq⟩) | (simp_all; done)))))
    refine hK5 _ ?_
    clear hK5
    refine W_re [(8, .own 3 .i64)] (by (try simp only [hnt, hnp]); rfl) ?_
    refine W_ret ?_
    simp only [thenQ, blockQ, loopQ, retQ, reduceIte, Nat.reduceEqDiff]
    refine ret1s 8 rfl rfl rfl ?_
    all_goals (
      first | exact aftR_no hc4 | (rw [aftR, if_pos hc4, ← show i.toNat = p.length by omega, ← hO]; done))
  · try simp only [decide_eq_true_eq, decide_eq_false_iff_not, ne_eq, Decidable.not_not, Bool.not_eq_true', Bool.not_eq_false', Bool.or_eq_true, Bool.and_eq_true, Bool.or_eq_false_iff, Bool.and_eq_false_iff] at hc4
    refine W_skip ?_
    simp only [thenQ, blockQ, loopQ, reduceIte, Nat.reduceEqDiff]
    refine hK2 _ ?_
    clear hK2
    refine W_seq (fun K6 hK6 => ?_)
    refine W_region hT hG [] [1, 2, 3, 4, 9] ?_
    rw [hnt]
    have hl36 := (planB_ok hc4.1).le
    simp only [baseS, eq_self, implies_true, if_true, if_false, reduceIte, Nat.reduceBEq, Nat.reduceEqDiff, Nat.reduceLT, Nat.reduceAdd, reduceCtorEq, tyInt, tdInt, tyHull, tdHull, tyBoxes, tdBoxes, tyInts, tdInts, c_impl_PlanValid, c_impl_within, c_impl_Hull_tier, c_impl_portAt, decide_false, room, Nat.reduceLeDiff, Nat.zero_le, storeAV, rowQ, ownInts, FT.of, FT.setf, elems, appAV_I, appI, srcI, ownI, anyI, sameR, appAV_P, appP, srcP, ownP, anyP]
    repeat (refine And.intro ?_ ?_; focus (first | exact ordP (by kernel_rfl) | with_reducible exact rfl | assumption | trivial | (simp only [inR]; omega) | omega | exact ⟨by omega, by omega⟩ | exact ⟨by omega, by omega, by omega⟩ | exact ⟨by omega, ⟨by omega, by omega⟩, by assumption⟩ | exact ⟨by omega, by assumption⟩ | exact hfindj (by omega) | exact hfind (by omega) | exact ⟨by omega, hfind (by omega)⟩ | ((try simp only [decide_eq_true_eq, Bool.and_eq_true, ne_eq, decide_not, Bool.not_eq_true', Bool.not_eq_false', Bool.or_eq_false_iff, Bool.not_not, decide_eq_false_iff_not]); (try intro hh); (repeat' apply And.intro) <;> (first | omega | (simp only [inR]; omega) | assumption | exact ⟨by omega, ⟨by omega, by omega⟩, by assumption⟩ | exact ⟨by omega, by assumption⟩ | exact hfindj (by omega) | exact hfind (by omega) | exact ⟨by omega, hfind (by omega)⟩ | exact hh.1 | exact hh.2 | exact hh.2.1 | exact hh.2.2 | exact hh.1.1 | exact hh.1.2 | (intro hq; exact ⟨hh, hq⟩) | (intro hq; exact ⟨hh.1, hq⟩) | (simp_all; done)))))
    refine hK6 _ ?_
    clear hK6
    refine W_seq (fun K7 hK7 => ?_)
    refine W_region hT hG [] [1, 2, 3, 4, 9, 10] ?_
    rw [hnt]
    simp only [baseS, eq_self, implies_true, if_true, if_false, reduceIte, Nat.reduceBEq, Nat.reduceEqDiff, Nat.reduceLT, Nat.reduceAdd, reduceCtorEq, tyInt, tdInt, tyHull, tdHull, tyBoxes, tdBoxes, tyInts, tdInts, c_impl_PlanValid, c_impl_within, c_impl_Hull_tier, c_impl_portAt, decide_false, room, Nat.reduceLeDiff, Nat.zero_le, storeAV, rowQ, ownInts, FT.of, FT.setf, elems, appAV_I, appI, srcI, ownI, anyI, sameR, appAV_P, appP, srcP, ownP, anyP]
    repeat (refine And.intro ?_ ?_; focus (first | exact ordP (by kernel_rfl) | with_reducible exact rfl | assumption | trivial | (simp only [inR]; omega) | omega | exact ⟨by omega, by omega⟩ | exact ⟨by omega, by omega, by omega⟩ | exact ⟨by omega, ⟨by omega, by omega⟩, by assumption⟩ | exact ⟨by omega, by assumption⟩ | exact hfindj (by omega) | exact hfind (by omega) | exact ⟨by omega, hfind (by omega)⟩ | ((try simp only [decide_eq_true_eq, Bool.and_eq_true, ne_eq, decide_not, Bool.not_eq_true', Bool.not_eq_false', Bool.or_eq_false_iff, Bool.not_not, decide_eq_false_iff_not]); (try intro hh); (repeat' apply And.intro) <;> (first | omega | (simp only [inR]; omega) | assumption | exact ⟨by omega, ⟨by omega, by omega⟩, by assumption⟩ | exact ⟨by omega, by assumption⟩ | exact hfindj (by omega) | exact hfind (by omega) | exact ⟨by omega, hfind (by omega)⟩ | exact hh.1 | exact hh.2 | exact hh.2.1 | exact hh.2.2 | exact hh.1.1 | exact hh.1.2 | (intro hq; exact ⟨hh, hq⟩) | (intro hq; exact ⟨hh.1, hq⟩) | (simp_all; done)))))
    refine hK7 _ ?_
    clear hK7
    refine W_seq (fun K8 hK8 => ?_)
    refine W_seq (fun K9 hK9 => ?_)
    refine W_region hT hG [] [1, 3, 4, 9, 10, 26, 27, 28] ?_
    rw [hnt]
    simp only [baseS, eq_self, implies_true, if_true, if_false, reduceIte, Nat.reduceBEq, Nat.reduceEqDiff, Nat.reduceLT, Nat.reduceAdd, reduceCtorEq, tyInt, tdInt, tyHull, tdHull, tyBoxes, tdBoxes, tyInts, tdInts, c_impl_PlanValid, c_impl_within, c_impl_Hull_tier, c_impl_portAt, decide_false, room, Nat.reduceLeDiff, Nat.zero_le, storeAV, rowQ, ownInts, FT.of, FT.setf, elems, appAV_I, appI, srcI, ownI, anyI, sameR, appAV_P, appP, srcP, ownP, anyP]
    repeat (refine And.intro ?_ ?_; focus (first | exact ordP (by kernel_rfl) | with_reducible exact rfl | assumption | trivial | (simp only [inR]; omega) | omega | exact ⟨by omega, by omega⟩ | exact ⟨by omega, by omega, by omega⟩ | exact ⟨by omega, ⟨by omega, by omega⟩, by assumption⟩ | exact ⟨by omega, by assumption⟩ | exact hfindj (by omega) | exact hfind (by omega) | exact ⟨by omega, hfind (by omega)⟩ | ((try simp only [decide_eq_true_eq, Bool.and_eq_true, ne_eq, decide_not, Bool.not_eq_true', Bool.not_eq_false', Bool.or_eq_false_iff, Bool.not_not, decide_eq_false_iff_not]); (try intro hh); (repeat' apply And.intro) <;> (first | omega | (simp only [inR]; omega) | assumption | exact ⟨by omega, ⟨by omega, by omega⟩, by assumption⟩ | exact ⟨by omega, by assumption⟩ | exact hfindj (by omega) | exact hfind (by omega) | exact ⟨by omega, hfind (by omega)⟩ | exact hh.1 | exact hh.2 | exact hh.2.1 | exact hh.2.2 | exact hh.1.1 | exact hh.1.2 | (intro hq; exact ⟨hh, hq⟩) | (intro hq; exact ⟨hh.1, hq⟩) | (simp_all; done)))))
    refine hK9 _ ?_
    clear hK9
    refine W_block ?_
    refine W_loop (α := Int × List Int × Int) [(1, .as), (3, .as), (4, .as), (9, .own 3 .i64), (10, .as), (26, .as), (27, .as), (28, .as)] (fun x => ⟨[(1, .rs .box bs), (3, .int port), (4, .rp [.int b, .int r, .int t]), (9, .sl 9), (10, .int x.2.2), (26, .rs .i64 p), (27, .int p.length), (28, .int x.1)], [(9, some (.sl 3 .i64 x.2.1))], 55⟩) (fun x => 0 ≤ x.1 ∧ x.1 ≤ p.length ∧ (x.2.1.length = p.length ∧ 0 ≤ x.2.2 ∧ x.2.2 ≤ x.1) ∧ x.2 = apTo t bs port p x.1.toNat) (fun x => (p.length - x.1).toNat) (0, List.replicate p.length 0, 0) ?_ ?_ ?_
    · (try simp only [hnt, hnp]); rfl
    · exact ⟨by omega, by omega, ⟨by simp, by dsimp only; omega, by dsimp only; omega⟩, rfl⟩
    rintro ⟨i, out, to⟩ ⟨hi0, hi1, hT0, hO⟩
    dsimp only at hi0 hi1 hT0 hO ⊢
    have hok := planB_ok hc4.1
    have hle := hok.le
    have htt := hv_t hok.ship
    have hfind := @PlanOK.find b r t bs p hok i.toNat
    have hst := apTo_step t bs port p hi0
    rw [← hO] at hst
    dsimp only at hst
    refine W_seq (fun K11 hK11 => ?_)
    refine W_region hT hG [] [1, 3, 4, 9, 10, 26, 27, 28, 29] ?_
    rw [hnt]
    simp only [baseS, eq_self, implies_true, if_true, if_false, reduceIte, Nat.reduceBEq, Nat.reduceEqDiff, Nat.reduceLT, Nat.reduceAdd, reduceCtorEq, tyInt, tdInt, tyHull, tdHull, tyBoxes, tdBoxes, tyInts, tdInts, c_impl_PlanValid, c_impl_within, c_impl_Hull_tier, c_impl_portAt, decide_false, room, Nat.reduceLeDiff, Nat.zero_le, storeAV, rowQ, ownInts, FT.of, FT.setf, elems, appAV_I, appI, srcI, ownI, anyI, sameR, appAV_P, appP, srcP, ownP, anyP]
    repeat (refine And.intro ?_ ?_; focus (first | exact ordP (by kernel_rfl) | with_reducible exact rfl | assumption | trivial | (simp only [inR]; omega) | omega | exact ⟨by omega, by omega⟩ | exact ⟨by omega, by omega, by omega⟩ | exact ⟨by omega, ⟨by omega, by omega⟩, by assumption⟩ | exact ⟨by omega, by assumption⟩ | exact hfindj (by omega) | exact hfind (by omega) | exact ⟨by omega, hfind (by omega)⟩ | ((try simp only [decide_eq_true_eq, Bool.and_eq_true, ne_eq, decide_not, Bool.not_eq_true', Bool.not_eq_false', Bool.or_eq_false_iff, Bool.not_not, decide_eq_false_iff_not]); (try intro hh); (repeat' apply And.intro) <;> (first | omega | (simp only [inR]; omega) | assumption | exact ⟨by omega, ⟨by omega, by omega⟩, by assumption⟩ | exact ⟨by omega, by assumption⟩ | exact hfindj (by omega) | exact hfind (by omega) | exact ⟨by omega, hfind (by omega)⟩ | exact hh.1 | exact hh.2 | exact hh.2.1 | exact hh.2.2 | exact hh.1.1 | exact hh.1.2 | (intro hq; exact ⟨hh, hq⟩) | (intro hq; exact ⟨hh.1, hq⟩) | (simp_all; done)))))
    refine hK11 _ ?_
    clear hK11
    refine W_seq (fun K12 hK12 => ?_)
    refine W_cond (b := _) rfl (fun hc13 => ?_) (fun hc13 => ?_)
    · try simp only [decide_eq_true_eq, decide_eq_false_iff_not, ne_eq, Decidable.not_not, Bool.not_eq_true', Bool.not_eq_false', Bool.or_eq_true, Bool.and_eq_true, Bool.or_eq_false_iff, Bool.and_eq_false_iff] at hc13
      refine W_skip ?_
      simp only [thenQ, blockQ, loopQ, reduceIte, Nat.reduceEqDiff]
      refine hK12 _ ?_
      clear hK12
      refine W_seq (fun K14 hK14 => ?_)
      refine W_block ?_
      refine W_seq (fun K15 hK15 => ?_)
      refine W_region hT hG [] [1, 3, 4, 9, 10, 11, 12, 26, 27, 28] ?_
      rw [hnt]
      simp only [baseS, eq_self, implies_true, if_true, if_false, reduceIte, Nat.reduceBEq, Nat.reduceEqDiff, Nat.reduceLT, Nat.reduceAdd, reduceCtorEq, tyInt, tdInt, tyHull, tdHull, tyBoxes, tdBoxes, tyInts, tdInts, c_impl_PlanValid, c_impl_within, c_impl_Hull_tier, c_impl_portAt, decide_false, room, Nat.reduceLeDiff, Nat.zero_le, storeAV, rowQ, ownInts, FT.of, FT.setf, elems, appAV_I, appI, srcI, ownI, anyI, sameR, appAV_P, appP, srcP, ownP, anyP]
      repeat (refine And.intro ?_ ?_; focus (first | exact ordP (by kernel_rfl) | with_reducible exact rfl | assumption | trivial | (simp only [inR]; omega) | omega | exact ⟨by omega, by omega⟩ | exact ⟨by omega, by omega, by omega⟩ | exact ⟨by omega, ⟨by omega, by omega⟩, by assumption⟩ | exact ⟨by omega, by assumption⟩ | exact hfindj (by omega) | exact hfind (by omega) | exact ⟨by omega, hfind (by omega)⟩ | ((try simp only [decide_eq_true_eq, Bool.and_eq_true, ne_eq, decide_not, Bool.not_eq_true', Bool.not_eq_false', Bool.or_eq_false_iff, Bool.not_not, decide_eq_false_iff_not]); (try intro hh); (repeat' apply And.intro) <;> (first | omega | (simp only [inR]; omega) | assumption | exact ⟨by omega, ⟨by omega, by omega⟩, by assumption⟩ | exact ⟨by omega, by assumption⟩ | exact hfindj (by omega) | exact hfind (by omega) | exact ⟨by omega, hfind (by omega)⟩ | exact hh.1 | exact hh.2 | exact hh.2.1 | exact hh.2.2 | exact hh.1.1 | exact hh.1.2 | (intro hq; exact ⟨hh, hq⟩) | (intro hq; exact ⟨hh.1, hq⟩) | (simp_all; done)))))
      refine hK15 _ ?_
      clear hK15
      refine W_seq (fun K16 hK16 => ?_)
      refine W_seq (fun K17 hK17 => ?_)
      refine W_region hT hG [] [1, 3, 4, 9, 10, 11, 12, 26, 27, 28, 36] ?_
      rw [hnt]
      simp only [baseS, eq_self, implies_true, if_true, if_false, reduceIte, Nat.reduceBEq, Nat.reduceEqDiff, Nat.reduceLT, Nat.reduceAdd, reduceCtorEq, tyInt, tdInt, tyHull, tdHull, tyBoxes, tdBoxes, tyInts, tdInts, c_impl_PlanValid, c_impl_within, c_impl_Hull_tier, c_impl_portAt, decide_false, room, Nat.reduceLeDiff, Nat.zero_le, storeAV, rowQ, ownInts, FT.of, FT.setf, elems, appAV_I, appI, srcI, ownI, anyI, sameR, appAV_P, appP, srcP, ownP, anyP]
      repeat (refine And.intro ?_ ?_; focus (first | exact ordP (by kernel_rfl) | with_reducible exact rfl | assumption | trivial | (simp only [inR]; omega) | omega | exact ⟨by omega, by omega⟩ | exact ⟨by omega, by omega, by omega⟩ | exact ⟨by omega, ⟨by omega, by omega⟩, by assumption⟩ | exact ⟨by omega, by assumption⟩ | exact hfindj (by omega) | exact hfind (by omega) | exact ⟨by omega, hfind (by omega)⟩ | ((try simp only [decide_eq_true_eq, Bool.and_eq_true, ne_eq, decide_not, Bool.not_eq_true', Bool.not_eq_false', Bool.or_eq_false_iff, Bool.not_not, decide_eq_false_iff_not]); (try intro hh); (repeat' apply And.intro) <;> (first | omega | (simp only [inR]; omega) | assumption | exact ⟨by omega, ⟨by omega, by omega⟩, by assumption⟩ | exact ⟨by omega, by assumption⟩ | exact hfindj (by omega) | exact hfind (by omega) | exact ⟨by omega, hfind (by omega)⟩ | exact hh.1 | exact hh.2 | exact hh.2.1 | exact hh.2.2 | exact hh.1.1 | exact hh.1.2 | (intro hq; exact ⟨hh, hq⟩) | (intro hq; exact ⟨hh.1, hq⟩) | (simp_all; done)))))
      refine hK17 _ ?_
      clear hK17
      refine W_cond (b := _) rfl (fun hc18 => ?_) (fun hc18 => ?_)
      · try simp only [decide_eq_true_eq, decide_eq_false_iff_not, ne_eq, Decidable.not_not, Bool.not_eq_true', Bool.not_eq_false', Bool.or_eq_true, Bool.and_eq_true, Bool.or_eq_false_iff, Bool.and_eq_false_iff] at hc18
        refine W_region hT hG [] [1, 3, 4, 9, 10, 12, 26, 27, 28] ?_
        rw [hnt]
        simp only [baseS, eq_self, implies_true, if_true, if_false, reduceIte, Nat.reduceBEq, Nat.reduceEqDiff, Nat.reduceLT, Nat.reduceAdd, reduceCtorEq, tyInt, tdInt, tyHull, tdHull, tyBoxes, tdBoxes, tyInts, tdInts, c_impl_PlanValid, c_impl_within, c_impl_Hull_tier, c_impl_portAt, decide_false, room, Nat.reduceLeDiff, Nat.zero_le, storeAV, rowQ, ownInts, FT.of, FT.setf, elems, appAV_I, appI, srcI, ownI, anyI, sameR, appAV_P, appP, srcP, ownP, anyP]
        repeat (refine And.intro ?_ ?_; focus (first | exact ordP (by kernel_rfl) | with_reducible exact rfl | assumption | trivial | (simp only [inR]; omega) | omega | exact ⟨by omega, by omega⟩ | exact ⟨by omega, by omega, by omega⟩ | exact ⟨by omega, ⟨by omega, by omega⟩, by assumption⟩ | exact ⟨by omega, by assumption⟩ | exact hfindj (by omega) | exact hfind (by omega) | exact ⟨by omega, hfind (by omega)⟩ | ((try simp only [decide_eq_true_eq, Bool.and_eq_true, ne_eq, decide_not, Bool.not_eq_true', Bool.not_eq_false', Bool.or_eq_false_iff, Bool.not_not, decide_eq_false_iff_not]); (try intro hh); (repeat' apply And.intro) <;> (first | omega | (simp only [inR]; omega) | assumption | exact ⟨by omega, ⟨by omega, by omega⟩, by assumption⟩ | exact ⟨by omega, by assumption⟩ | exact hfindj (by omega) | exact hfind (by omega) | exact ⟨by omega, hfind (by omega)⟩ | exact hh.1 | exact hh.2 | exact hh.2.1 | exact hh.2.2 | exact hh.1.1 | exact hh.1.2 | (intro hq; exact ⟨hh, hq⟩) | (intro hq; exact ⟨hh.1, hq⟩) | (simp_all; done)))))
        refine hK16 _ ?_
        clear hK16
        refine W_seq (fun K19 hK19 => ?_)
        refine W_region hT hG [] [1, 3, 4, 9, 10, 12, 26, 27, 28, 46] ?_
        rw [hnt]
        simp only [baseS, eq_self, implies_true, if_true, if_false, reduceIte, Nat.reduceBEq, Nat.reduceEqDiff, Nat.reduceLT, Nat.reduceAdd, reduceCtorEq, tyInt, tdInt, tyHull, tdHull, tyBoxes, tdBoxes, tyInts, tdInts, c_impl_PlanValid, c_impl_within, c_impl_Hull_tier, c_impl_portAt, decide_false, room, Nat.reduceLeDiff, Nat.zero_le, storeAV, rowQ, ownInts, FT.of, FT.setf, elems, appAV_I, appI, srcI, ownI, anyI, sameR, appAV_P, appP, srcP, ownP, anyP]
        repeat (refine And.intro ?_ ?_; focus (first | exact ordP (by kernel_rfl) | with_reducible exact rfl | assumption | trivial | (simp only [inR]; omega) | omega | exact ⟨by omega, by omega⟩ | exact ⟨by omega, by omega, by omega⟩ | exact ⟨by omega, ⟨by omega, by omega⟩, by assumption⟩ | exact ⟨by omega, by assumption⟩ | exact hfindj (by omega) | exact hfind (by omega) | exact ⟨by omega, hfind (by omega)⟩ | ((try simp only [decide_eq_true_eq, Bool.and_eq_true, ne_eq, decide_not, Bool.not_eq_true', Bool.not_eq_false', Bool.or_eq_false_iff, Bool.not_not, decide_eq_false_iff_not]); (try intro hh); (repeat' apply And.intro) <;> (first | omega | (simp only [inR]; omega) | assumption | exact ⟨by omega, ⟨by omega, by omega⟩, by assumption⟩ | exact ⟨by omega, by assumption⟩ | exact hfindj (by omega) | exact hfind (by omega) | exact ⟨by omega, hfind (by omega)⟩ | exact hh.1 | exact hh.2 | exact hh.2.1 | exact hh.2.2 | exact hh.1.1 | exact hh.1.2 | (intro hq; exact ⟨hh, hq⟩) | (intro hq; exact ⟨hh.1, hq⟩) | (simp_all; done)))))
        refine hK19 _ ?_
        clear hK19
        refine W_cond (b := _) rfl (fun hc20 => ?_) (fun hc20 => ?_)
        · try simp only [decide_eq_true_eq, decide_eq_false_iff_not, ne_eq, Decidable.not_not, Bool.not_eq_true', Bool.not_eq_false', Bool.or_eq_true, Bool.and_eq_true, Bool.or_eq_false_iff, Bool.and_eq_false_iff] at hc20
          refine W_seq (fun K21 hK21 => ?_)
          refine W_region hT hG [] [1, 3, 4, 9, 10, 26, 27, 28] ?_
          rw [hnt]
          simp only [baseS, eq_self, implies_true, if_true, if_false, reduceIte, Nat.reduceBEq, Nat.reduceEqDiff, Nat.reduceLT, Nat.reduceAdd, reduceCtorEq, tyInt, tdInt, tyHull, tdHull, tyBoxes, tdBoxes, tyInts, tdInts, c_impl_PlanValid, c_impl_within, c_impl_Hull_tier, c_impl_portAt, decide_false, room, Nat.reduceLeDiff, Nat.zero_le, storeAV, rowQ, ownInts, FT.of, FT.setf, elems, appAV_I, appI, srcI, ownI, anyI, sameR, appAV_P, appP, srcP, ownP, anyP]
          repeat (refine And.intro ?_ ?_; focus (first | exact ordP (by kernel_rfl) | with_reducible exact rfl | assumption | trivial | (simp only [inR]; omega) | omega | exact ⟨by omega, by omega⟩ | exact ⟨by omega, by omega, by omega⟩ | exact ⟨by omega, ⟨by omega, by omega⟩, by assumption⟩ | exact ⟨by omega, by assumption⟩ | exact hfindj (by omega) | exact hfind (by omega) | exact ⟨by omega, hfind (by omega)⟩ | ((try simp only [decide_eq_true_eq, Bool.and_eq_true, ne_eq, decide_not, Bool.not_eq_true', Bool.not_eq_false', Bool.or_eq_false_iff, Bool.not_not, decide_eq_false_iff_not]); (try intro hh); (repeat' apply And.intro) <;> (first | omega | (simp only [inR]; omega) | assumption | exact ⟨by omega, ⟨by omega, by omega⟩, by assumption⟩ | exact ⟨by omega, by assumption⟩ | exact hfindj (by omega) | exact hfind (by omega) | exact ⟨by omega, hfind (by omega)⟩ | exact hh.1 | exact hh.2 | exact hh.2.1 | exact hh.2.2 | exact hh.1.1 | exact hh.1.2 | (intro hq; exact ⟨hh, hq⟩) | (intro hq; exact ⟨hh.1, hq⟩) | (simp_all; done)))))
          refine hK21 _ ?_
          clear hK21
          refine W_region hT hG [] [1, 3, 4, 9, 10, 26, 27, 28] ?_
          rw [hnt]
          simp only [baseS, eq_self, implies_true, if_true, if_false, reduceIte, Nat.reduceBEq, Nat.reduceEqDiff, Nat.reduceLT, Nat.reduceAdd, reduceCtorEq, tyInt, tdInt, tyHull, tdHull, tyBoxes, tdBoxes, tyInts, tdInts, c_impl_PlanValid, c_impl_within, c_impl_Hull_tier, c_impl_portAt, decide_false, room, Nat.reduceLeDiff, Nat.zero_le, storeAV, rowQ, ownInts, FT.of, FT.setf, elems, appAV_I, appI, srcI, ownI, anyI, sameR, appAV_P, appP, srcP, ownP, anyP]
          repeat (refine And.intro ?_ ?_; focus (first | exact ordP (by kernel_rfl) | with_reducible exact rfl | assumption | trivial | (simp only [inR]; omega) | omega | exact ⟨by omega, by omega⟩ | exact ⟨by omega, by omega, by omega⟩ | exact ⟨by omega, ⟨by omega, by omega⟩, by assumption⟩ | exact ⟨by omega, by assumption⟩ | exact hfindj (by omega) | exact hfind (by omega) | exact ⟨by omega, hfind (by omega)⟩ | ((try simp only [decide_eq_true_eq, Bool.and_eq_true, ne_eq, decide_not, Bool.not_eq_true', Bool.not_eq_false', Bool.or_eq_false_iff, Bool.not_not, decide_eq_false_iff_not]); (try intro hh); (repeat' apply And.intro) <;> (first | omega | (simp only [inR]; omega) | assumption | exact ⟨by omega, ⟨by omega, by omega⟩, by assumption⟩ | exact ⟨by omega, by assumption⟩ | exact hfindj (by omega) | exact hfind (by omega) | exact ⟨by omega, hfind (by omega)⟩ | exact hh.1 | exact hh.2 | exact hh.2.1 | exact hh.2.2 | exact hh.1.1 | exact hh.1.2 | (intro hq; exact ⟨hh, hq⟩) | (intro hq; exact ⟨hh.1, hq⟩) | (simp_all; done)))))
          refine hK14 _ ?_
          clear hK14
          refine W_region hT hG [] [1, 3, 4, 9, 10, 26, 27, 28] ?_
          rw [hnt]
          simp only [baseS, eq_self, implies_true, if_true, if_false, reduceIte, Nat.reduceBEq, Nat.reduceEqDiff, Nat.reduceLT, Nat.reduceAdd, reduceCtorEq, tyInt, tdInt, tyHull, tdHull, tyBoxes, tdBoxes, tyInts, tdInts, c_impl_PlanValid, c_impl_within, c_impl_Hull_tier, c_impl_portAt, decide_false, room, Nat.reduceLeDiff, Nat.zero_le, storeAV, rowQ, ownInts, FT.of, FT.setf, elems, appAV_I, appI, srcI, ownI, anyI, sameR, appAV_P, appP, srcP, ownP, anyP]
          repeat (refine And.intro ?_ ?_; focus (first | exact ordP (by kernel_rfl) | with_reducible exact rfl | assumption | trivial | (simp only [inR]; omega) | omega | exact ⟨by omega, by omega⟩ | exact ⟨by omega, by omega, by omega⟩ | exact ⟨by omega, ⟨by omega, by omega⟩, by assumption⟩ | exact ⟨by omega, by assumption⟩ | exact hfindj (by omega) | exact hfind (by omega) | exact ⟨by omega, hfind (by omega)⟩ | ((try simp only [decide_eq_true_eq, Bool.and_eq_true, ne_eq, decide_not, Bool.not_eq_true', Bool.not_eq_false', Bool.or_eq_false_iff, Bool.not_not, decide_eq_false_iff_not]); (try intro hh); (repeat' apply And.intro) <;> (first | omega | (simp only [inR]; omega) | assumption | exact ⟨by omega, ⟨by omega, by omega⟩, by assumption⟩ | exact ⟨by omega, by assumption⟩ | exact hfindj (by omega) | exact hfind (by omega) | exact ⟨by omega, hfind (by omega)⟩ | exact hh.1 | exact hh.2 | exact hh.2.1 | exact hh.2.2 | exact hh.1.1 | exact hh.1.2 | (intro hq; exact ⟨hh, hq⟩) | (intro hq; exact ⟨hh.1, hq⟩) | (simp_all; done)))))
          refine ⟨(i + 1, _, _), (by (try simp only [hnt, hnp]); rfl), ⟨by dsimp only; omega, by dsimp only; omega, ⟨by dsimp only; (try rw [List.length_set]); omega, by dsimp only; omega, by dsimp only; omega⟩, ?_⟩, by dsimp only; omega⟩
          dsimp only
          rw [hst]
          first | (rw [if_pos hc18, if_pos hc20]; done) | (rw [if_neg hc18, if_pos hc20]; done) | (rw [if_pos hc18, if_neg (by intro hh; exact hc20.elim (fun h => hh.1 h) (fun h => hh.2 h))]; done) | (rw [if_neg hc18, if_neg (by intro hh; exact hc20.elim (fun h => hh.1 h) (fun h => hh.2 h))]; done)
        · try simp only [decide_eq_true_eq, decide_eq_false_iff_not, ne_eq, Decidable.not_not, Bool.not_eq_true', Bool.not_eq_false', Bool.or_eq_true, Bool.and_eq_true, Bool.or_eq_false_iff, Bool.and_eq_false_iff] at hc20
          refine W_skip ?_
          simp only [thenQ, blockQ, loopQ, reduceIte, Nat.reduceEqDiff]
          refine hK14 _ ?_
          clear hK14
          refine W_region hT hG [] [1, 3, 4, 9, 10, 26, 27, 28] ?_
          rw [hnt]
          simp only [baseS, eq_self, implies_true, if_true, if_false, reduceIte, Nat.reduceBEq, Nat.reduceEqDiff, Nat.reduceLT, Nat.reduceAdd, reduceCtorEq, tyInt, tdInt, tyHull, tdHull, tyBoxes, tdBoxes, tyInts, tdInts, c_impl_PlanValid, c_impl_within, c_impl_Hull_tier, c_impl_portAt, decide_false, room, Nat.reduceLeDiff, Nat.zero_le, storeAV, rowQ, ownInts, FT.of, FT.setf, elems, appAV_I, appI, srcI, ownI, anyI, sameR, appAV_P, appP, srcP, ownP, anyP]
          repeat (refine And.intro ?_ ?_; focus (first | exact ordP (by kernel_rfl) | with_reducible exact rfl | assumption | trivial | (simp only [inR]; omega) | omega | exact ⟨by omega, by omega⟩ | exact ⟨by omega, by omega, by omega⟩ | exact ⟨by omega, ⟨by omega, by omega⟩, by assumption⟩ | exact ⟨by omega, by assumption⟩ | exact hfindj (by omega) | exact hfind (by omega) | exact ⟨by omega, hfind (by omega)⟩ | ((try simp only [decide_eq_true_eq, Bool.and_eq_true, ne_eq, decide_not, Bool.not_eq_true', Bool.not_eq_false', Bool.or_eq_false_iff, Bool.not_not, decide_eq_false_iff_not]); (try intro hh); (repeat' apply And.intro) <;> (first | omega | (simp only [inR]; omega) | assumption | exact ⟨by omega, ⟨by omega, by omega⟩, by assumption⟩ | exact ⟨by omega, by assumption⟩ | exact hfindj (by omega) | exact hfind (by omega) | exact ⟨by omega, hfind (by omega)⟩ | exact hh.1 | exact hh.2 | exact hh.2.1 | exact hh.2.2 | exact hh.1.1 | exact hh.1.2 | (intro hq; exact ⟨hh, hq⟩) | (intro hq; exact ⟨hh.1, hq⟩) | (simp_all; done)))))
          refine ⟨(i + 1, _, _), (by (try simp only [hnt, hnp]); rfl), ⟨by dsimp only; omega, by dsimp only; omega, ⟨by dsimp only; (try rw [List.length_set]); omega, by dsimp only; omega, by dsimp only; omega⟩, ?_⟩, by dsimp only; omega⟩
          dsimp only
          rw [hst]
          first | (rw [if_pos hc18, if_pos hc20]; done) | (rw [if_neg hc18, if_pos hc20]; done) | (rw [if_pos hc18, if_neg (by intro hh; exact hc20.elim (fun h => hh.1 h) (fun h => hh.2 h))]; done) | (rw [if_neg hc18, if_neg (by intro hh; exact hc20.elim (fun h => hh.1 h) (fun h => hh.2 h))]; done)
      · try simp only [decide_eq_true_eq, decide_eq_false_iff_not, ne_eq, Decidable.not_not, Bool.not_eq_true', Bool.not_eq_false', Bool.or_eq_true, Bool.and_eq_true, Bool.or_eq_false_iff, Bool.and_eq_false_iff] at hc18
        refine W_skip ?_
        simp only [thenQ, blockQ, loopQ, reduceIte, Nat.reduceEqDiff]
        refine hK16 _ ?_
        clear hK16
        refine W_seq (fun K22 hK22 => ?_)
        refine W_region hT hG [] [1, 3, 4, 9, 10, 12, 26, 27, 28, 46] ?_
        rw [hnt]
        simp only [baseS, eq_self, implies_true, if_true, if_false, reduceIte, Nat.reduceBEq, Nat.reduceEqDiff, Nat.reduceLT, Nat.reduceAdd, reduceCtorEq, tyInt, tdInt, tyHull, tdHull, tyBoxes, tdBoxes, tyInts, tdInts, c_impl_PlanValid, c_impl_within, c_impl_Hull_tier, c_impl_portAt, decide_false, room, Nat.reduceLeDiff, Nat.zero_le, storeAV, rowQ, ownInts, FT.of, FT.setf, elems, appAV_I, appI, srcI, ownI, anyI, sameR, appAV_P, appP, srcP, ownP, anyP]
        repeat (refine And.intro ?_ ?_; focus (first | exact ordP (by kernel_rfl) | with_reducible exact rfl | assumption | trivial | (simp only [inR]; omega) | omega | exact ⟨by omega, by omega⟩ | exact ⟨by omega, by omega, by omega⟩ | exact ⟨by omega, ⟨by omega, by omega⟩, by assumption⟩ | exact ⟨by omega, by assumption⟩ | exact hfindj (by omega) | exact hfind (by omega) | exact ⟨by omega, hfind (by omega)⟩ | ((try simp only [decide_eq_true_eq, Bool.and_eq_true, ne_eq, decide_not, Bool.not_eq_true', Bool.not_eq_false', Bool.or_eq_false_iff, Bool.not_not, decide_eq_false_iff_not]); (try intro hh); (repeat' apply And.intro) <;> (first | omega | (simp only [inR]; omega) | assumption | exact ⟨by omega, ⟨by omega, by omega⟩, by assumption⟩ | exact ⟨by omega, by assumption⟩ | exact hfindj (by omega) | exact hfind (by omega) | exact ⟨by omega, hfind (by omega)⟩ | exact hh.1 | exact hh.2 | exact hh.2.1 | exact hh.2.2 | exact hh.1.1 | exact hh.1.2 | (intro hq; exact ⟨hh, hq⟩) | (intro hq; exact ⟨hh.1, hq⟩) | (simp_all; done)))))
        refine hK22 _ ?_
        clear hK22
        refine W_cond (b := _) rfl (fun hc23 => ?_) (fun hc23 => ?_)
        · try simp only [decide_eq_true_eq, decide_eq_false_iff_not, ne_eq, Decidable.not_not, Bool.not_eq_true', Bool.not_eq_false', Bool.or_eq_true, Bool.and_eq_true, Bool.or_eq_false_iff, Bool.and_eq_false_iff] at hc23
          refine W_seq (fun K24 hK24 => ?_)
          refine W_region hT hG [] [1, 3, 4, 9, 10, 26, 27, 28] ?_
          rw [hnt]
          simp only [baseS, eq_self, implies_true, if_true, if_false, reduceIte, Nat.reduceBEq, Nat.reduceEqDiff, Nat.reduceLT, Nat.reduceAdd, reduceCtorEq, tyInt, tdInt, tyHull, tdHull, tyBoxes, tdBoxes, tyInts, tdInts, c_impl_PlanValid, c_impl_within, c_impl_Hull_tier, c_impl_portAt, decide_false, room, Nat.reduceLeDiff, Nat.zero_le, storeAV, rowQ, ownInts, FT.of, FT.setf, elems, appAV_I, appI, srcI, ownI, anyI, sameR, appAV_P, appP, srcP, ownP, anyP]
          repeat (refine And.intro ?_ ?_; focus (first | exact ordP (by kernel_rfl) | with_reducible exact rfl | assumption | trivial | (simp only [inR]; omega) | omega | exact ⟨by omega, by omega⟩ | exact ⟨by omega, by omega, by omega⟩ | exact ⟨by omega, ⟨by omega, by omega⟩, by assumption⟩ | exact ⟨by omega, by assumption⟩ | exact hfindj (by omega) | exact hfind (by omega) | exact ⟨by omega, hfind (by omega)⟩ | ((try simp only [decide_eq_true_eq, Bool.and_eq_true, ne_eq, decide_not, Bool.not_eq_true', Bool.not_eq_false', Bool.or_eq_false_iff, Bool.not_not, decide_eq_false_iff_not]); (try intro hh); (repeat' apply And.intro) <;> (first | omega | (simp only [inR]; omega) | assumption | exact ⟨by omega, ⟨by omega, by omega⟩, by assumption⟩ | exact ⟨by omega, by assumption⟩ | exact hfindj (by omega) | exact hfind (by omega) | exact ⟨by omega, hfind (by omega)⟩ | exact hh.1 | exact hh.2 | exact hh.2.1 | exact hh.2.2 | exact hh.1.1 | exact hh.1.2 | (intro hq; exact ⟨hh, hq⟩) | (intro hq; exact ⟨hh.1, hq⟩) | (simp_all; done)))))
          refine hK24 _ ?_
          clear hK24
          refine W_region hT hG [] [1, 3, 4, 9, 10, 26, 27, 28] ?_
          rw [hnt]
          simp only [baseS, eq_self, implies_true, if_true, if_false, reduceIte, Nat.reduceBEq, Nat.reduceEqDiff, Nat.reduceLT, Nat.reduceAdd, reduceCtorEq, tyInt, tdInt, tyHull, tdHull, tyBoxes, tdBoxes, tyInts, tdInts, c_impl_PlanValid, c_impl_within, c_impl_Hull_tier, c_impl_portAt, decide_false, room, Nat.reduceLeDiff, Nat.zero_le, storeAV, rowQ, ownInts, FT.of, FT.setf, elems, appAV_I, appI, srcI, ownI, anyI, sameR, appAV_P, appP, srcP, ownP, anyP]
          repeat (refine And.intro ?_ ?_; focus (first | exact ordP (by kernel_rfl) | with_reducible exact rfl | assumption | trivial | (simp only [inR]; omega) | omega | exact ⟨by omega, by omega⟩ | exact ⟨by omega, by omega, by omega⟩ | exact ⟨by omega, ⟨by omega, by omega⟩, by assumption⟩ | exact ⟨by omega, by assumption⟩ | exact hfindj (by omega) | exact hfind (by omega) | exact ⟨by omega, hfind (by omega)⟩ | ((try simp only [decide_eq_true_eq, Bool.and_eq_true, ne_eq, decide_not, Bool.not_eq_true', Bool.not_eq_false', Bool.or_eq_false_iff, Bool.not_not, decide_eq_false_iff_not]); (try intro hh); (repeat' apply And.intro) <;> (first | omega | (simp only [inR]; omega) | assumption | exact ⟨by omega, ⟨by omega, by omega⟩, by assumption⟩ | exact ⟨by omega, by assumption⟩ | exact hfindj (by omega) | exact hfind (by omega) | exact ⟨by omega, hfind (by omega)⟩ | exact hh.1 | exact hh.2 | exact hh.2.1 | exact hh.2.2 | exact hh.1.1 | exact hh.1.2 | (intro hq; exact ⟨hh, hq⟩) | (intro hq; exact ⟨hh.1, hq⟩) | (simp_all; done)))))
          refine hK14 _ ?_
          clear hK14
          refine W_region hT hG [] [1, 3, 4, 9, 10, 26, 27, 28] ?_
          rw [hnt]
          simp only [baseS, eq_self, implies_true, if_true, if_false, reduceIte, Nat.reduceBEq, Nat.reduceEqDiff, Nat.reduceLT, Nat.reduceAdd, reduceCtorEq, tyInt, tdInt, tyHull, tdHull, tyBoxes, tdBoxes, tyInts, tdInts, c_impl_PlanValid, c_impl_within, c_impl_Hull_tier, c_impl_portAt, decide_false, room, Nat.reduceLeDiff, Nat.zero_le, storeAV, rowQ, ownInts, FT.of, FT.setf, elems, appAV_I, appI, srcI, ownI, anyI, sameR, appAV_P, appP, srcP, ownP, anyP]
          repeat (refine And.intro ?_ ?_; focus (first | exact ordP (by kernel_rfl) | with_reducible exact rfl | assumption | trivial | (simp only [inR]; omega) | omega | exact ⟨by omega, by omega⟩ | exact ⟨by omega, by omega, by omega⟩ | exact ⟨by omega, ⟨by omega, by omega⟩, by assumption⟩ | exact ⟨by omega, by assumption⟩ | exact hfindj (by omega) | exact hfind (by omega) | exact ⟨by omega, hfind (by omega)⟩ | ((try simp only [decide_eq_true_eq, Bool.and_eq_true, ne_eq, decide_not, Bool.not_eq_true', Bool.not_eq_false', Bool.or_eq_false_iff, Bool.not_not, decide_eq_false_iff_not]); (try intro hh); (repeat' apply And.intro) <;> (first | omega | (simp only [inR]; omega) | assumption | exact ⟨by omega, ⟨by omega, by omega⟩, by assumption⟩ | exact ⟨by omega, by assumption⟩ | exact hfindj (by omega) | exact hfind (by omega) | exact ⟨by omega, hfind (by omega)⟩ | exact hh.1 | exact hh.2 | exact hh.2.1 | exact hh.2.2 | exact hh.1.1 | exact hh.1.2 | (intro hq; exact ⟨hh, hq⟩) | (intro hq; exact ⟨hh.1, hq⟩) | (simp_all; done)))))
          refine ⟨(i + 1, _, _), (by (try simp only [hnt, hnp]); rfl), ⟨by dsimp only; omega, by dsimp only; omega, ⟨by dsimp only; (try rw [List.length_set]); omega, by dsimp only; omega, by dsimp only; omega⟩, ?_⟩, by dsimp only; omega⟩
          dsimp only
          rw [hst]
          first | (rw [if_pos hc18, if_pos hc23]; done) | (rw [if_neg hc18, if_pos hc23]; done) | (rw [if_pos hc18, if_neg (by intro hh; exact hc23.elim (fun h => hh.1 h) (fun h => hh.2 h))]; done) | (rw [if_neg hc18, if_neg (by intro hh; exact hc23.elim (fun h => hh.1 h) (fun h => hh.2 h))]; done)
        · try simp only [decide_eq_true_eq, decide_eq_false_iff_not, ne_eq, Decidable.not_not, Bool.not_eq_true', Bool.not_eq_false', Bool.or_eq_true, Bool.and_eq_true, Bool.or_eq_false_iff, Bool.and_eq_false_iff] at hc23
          refine W_skip ?_
          simp only [thenQ, blockQ, loopQ, reduceIte, Nat.reduceEqDiff]
          refine hK14 _ ?_
          clear hK14
          refine W_region hT hG [] [1, 3, 4, 9, 10, 26, 27, 28] ?_
          rw [hnt]
          simp only [baseS, eq_self, implies_true, if_true, if_false, reduceIte, Nat.reduceBEq, Nat.reduceEqDiff, Nat.reduceLT, Nat.reduceAdd, reduceCtorEq, tyInt, tdInt, tyHull, tdHull, tyBoxes, tdBoxes, tyInts, tdInts, c_impl_PlanValid, c_impl_within, c_impl_Hull_tier, c_impl_portAt, decide_false, room, Nat.reduceLeDiff, Nat.zero_le, storeAV, rowQ, ownInts, FT.of, FT.setf, elems, appAV_I, appI, srcI, ownI, anyI, sameR, appAV_P, appP, srcP, ownP, anyP]
          repeat (refine And.intro ?_ ?_; focus (first | exact ordP (by kernel_rfl) | with_reducible exact rfl | assumption | trivial | (simp only [inR]; omega) | omega | exact ⟨by omega, by omega⟩ | exact ⟨by omega, by omega, by omega⟩ | exact ⟨by omega, ⟨by omega, by omega⟩, by assumption⟩ | exact ⟨by omega, by assumption⟩ | exact hfindj (by omega) | exact hfind (by omega) | exact ⟨by omega, hfind (by omega)⟩ | ((try simp only [decide_eq_true_eq, Bool.and_eq_true, ne_eq, decide_not, Bool.not_eq_true', Bool.not_eq_false', Bool.or_eq_false_iff, Bool.not_not, decide_eq_false_iff_not]); (try intro hh); (repeat' apply And.intro) <;> (first | omega | (simp only [inR]; omega) | assumption | exact ⟨by omega, ⟨by omega, by omega⟩, by assumption⟩ | exact ⟨by omega, by assumption⟩ | exact hfindj (by omega) | exact hfind (by omega) | exact ⟨by omega, hfind (by omega)⟩ | exact hh.1 | exact hh.2 | exact hh.2.1 | exact hh.2.2 | exact hh.1.1 | exact hh.1.2 | (intro hq; exact ⟨hh, hq⟩) | (intro hq; exact ⟨hh.1, hq⟩) | (simp_all; done)))))
          refine ⟨(i + 1, _, _), (by (try simp only [hnt, hnp]); rfl), ⟨by dsimp only; omega, by dsimp only; omega, ⟨by dsimp only; (try rw [List.length_set]); omega, by dsimp only; omega, by dsimp only; omega⟩, ?_⟩, by dsimp only; omega⟩
          dsimp only
          rw [hst]
          first | (rw [if_pos hc18, if_pos hc23]; done) | (rw [if_neg hc18, if_pos hc23]; done) | (rw [if_pos hc18, if_neg (by intro hh; exact hc23.elim (fun h => hh.1 h) (fun h => hh.2 h))]; done) | (rw [if_neg hc18, if_neg (by intro hh; exact hc23.elim (fun h => hh.1 h) (fun h => hh.2 h))]; done)
    · try simp only [decide_eq_true_eq, decide_eq_false_iff_not, ne_eq, Decidable.not_not, Bool.not_eq_true', Bool.not_eq_false', Bool.or_eq_true, Bool.and_eq_true, Bool.or_eq_false_iff, Bool.and_eq_false_iff] at hc13
      refine W_exit ?_
      simp only [thenQ, blockQ, loopQ, reduceIte, Nat.reduceEqDiff]
      refine hK8 _ ?_
      clear hK8
      refine W_seq (fun K25 hK25 => ?_)
      refine W_region hT hG [] [8] ?_
      rw [hnt]
      simp only [baseS, eq_self, implies_true, if_true, if_false, reduceIte, Nat.reduceBEq, Nat.reduceEqDiff, Nat.reduceLT, Nat.reduceAdd, reduceCtorEq, tyInt, tdInt, tyHull, tdHull, tyBoxes, tdBoxes, tyInts, tdInts, c_impl_PlanValid, c_impl_within, c_impl_Hull_tier, c_impl_portAt, decide_false, room, Nat.reduceLeDiff, Nat.zero_le, storeAV, rowQ, ownInts, FT.of, FT.setf, elems, appAV_I, appI, srcI, ownI, anyI, sameR, appAV_P, appP, srcP, ownP, anyP]
      repeat (refine And.intro ?_ ?_; focus (first | exact ordP (by kernel_rfl) | with_reducible exact rfl | assumption | trivial | (simp only [inR]; omega) | omega | exact ⟨by omega, by omega⟩ | exact ⟨by omega, by omega, by omega⟩ | exact ⟨by omega, ⟨by omega, by omega⟩, by assumption⟩ | exact ⟨by omega, by assumption⟩ | exact hfindj (by omega) | exact hfind (by omega) | exact ⟨by omega, hfind (by omega)⟩ | ((try simp only [decide_eq_true_eq, Bool.and_eq_true, ne_eq, decide_not, Bool.not_eq_true', Bool.not_eq_false', Bool.or_eq_false_iff, Bool.not_not, decide_eq_false_iff_not]); (try intro hh); (repeat' apply And.intro) <;> (first | omega | (simp only [inR]; omega) | assumption | exact ⟨by omega, ⟨by omega, by omega⟩, by assumption⟩ | exact ⟨by omega, by assumption⟩ | exact hfindj (by omega) | exact hfind (by omega) | exact ⟨by omega, hfind (by omega)⟩ | exact hh.1 | exact hh.2 | exact hh.2.1 | exact hh.2.2 | exact hh.1.1 | exact hh.1.2 | (intro hq; exact ⟨hh, hq⟩) | (intro hq; exact ⟨hh.1, hq⟩) | (simp_all; done)))))
      refine hK25 _ ?_
      clear hK25
      refine W_re [(8, .own 3 .i64)] (by (try simp only [hnt, hnp]); rfl) ?_
      refine W_ret ?_
      simp only [thenQ, blockQ, loopQ, retQ, reduceIte, Nat.reduceEqDiff]
      refine ret1s 8 rfl rfl rfl ?_
      all_goals (
        first | exact aftR_no hc13 | (rw [aftR, if_pos hc4, ← show i.toNat = p.length by omega, ← hO]; done))

def c_spec_AfterPort : Ctr where
  modes := [.v .p, .v (.r .box), .v (.r .i64), .v .p]
  al := false
  run := fun xs os => match xs, os with
    | [.agg [.int b, .int r, .int t], .rs .box bs, .rs .i64 p, .int port], [] => some ⟨bs.length ≤ 9223372036854775807 ∧ p.length ≤ 9223372036854775807, .sl 0, [.sl 3 .i64 (aftR b r t bs p port)], []⟩
    | _, _ => none
theorem m_spec_AfterPort : Meets Try.prog 48 c_spec_AfterPort := by
  refine meets_of (T := tyT) tyOK Try.func48 (by rfl) rfl (by decide) ?_
  intro args owns R hrun hpre
  simp only [c_spec_AfterPort] at hrun
  split at hrun
  case h_2 => cases hrun
  rename_i b r t bs p port
  cases hrun
  try dsimp only at hpre
  refine ⟨_, rfl, fun E hP hnt hnp => ?_⟩
  replace hnt : E.nt = 68 := hnt
  replace hnp : E.np = 4 := hnp
  have hT : ∀ t d, tyT t = some d → TyOK E.P t d := hP ▸ tyOK
  have hG : ∀ f C, Γof [(42, c_spec_PlanValid), (88, c_spec_l1In), (91, c_spec_l10Port)] f = some C → Meets E.P f C := hΓof (by rw [hP]; exact ⟨m_spec_PlanValid, m_spec_l1In, m_spec_l10Port, trivial⟩)
  try simp only [show Try.f48.ntmps = 68 from rfl]
  have hbs := hpre.1
  have hp := hpre.2
  refine W_seq (fun K1 hK1 => ?_)
  refine W_region hT hG [] [1, 2, 3, 4] ?_
  rw [hnt]
  simp only [baseS, eq_self, implies_true, if_true, if_false, reduceIte, Nat.reduceBEq, Nat.reduceEqDiff, Nat.reduceLT, Nat.reduceAdd, reduceCtorEq, tyInt, tdInt, tyHull, tdHull, tyBoxes, tdBoxes, tyInts, tdInts, c_spec_PlanValid, c_spec_l1In, c_spec_l10Port, decide_false, room, Nat.reduceLeDiff, Nat.zero_le, storeAV, rowQ, ownInts, FT.of, FT.setf, elems, appAV_I, appI, srcI, ownI, anyI, sameR, appAV_P, appP, srcP, ownP, anyP]
  repeat (refine And.intro ?_ ?_; focus (first | exact ordP (by kernel_rfl) | with_reducible exact rfl | assumption | trivial | (simp only [inR]; omega) | omega | exact ⟨by omega, by omega⟩ | exact ⟨by omega, by omega, by omega⟩ | exact ⟨by omega, ⟨by omega, by omega⟩, by assumption⟩ | exact ⟨by omega, by assumption⟩ | exact hfindj (by omega) | exact hfind (by omega) | exact ⟨by omega, hfind (by omega)⟩ | ((try simp only [decide_eq_true_eq, Bool.and_eq_true, ne_eq, decide_not, Bool.not_eq_true', Bool.not_eq_false', Bool.or_eq_false_iff, Bool.not_not, decide_eq_false_iff_not]); (try intro hh); (repeat' apply And.intro) <;> (first | omega | (simp only [inR]; omega) | assumption | exact ⟨by omega, ⟨by omega, by omega⟩, by assumption⟩ | exact ⟨by omega, by assumption⟩ | exact hfindj (by omega) | exact hfind (by omega) | exact ⟨by omega, hfind (by omega)⟩ | exact hh.1 | exact hh.2 | exact hh.2.1 | exact hh.2.2 | exact hh.1.1 | exact hh.1.2 | (intro hq; exact ⟨hh, hq⟩) | (intro hq; exact ⟨hh.1, hq⟩) | (simp_all; done)))))
  refine hK1 _ ?_
  clear hK1
  refine W_seq (fun K2 hK2 => ?_)
  refine W_seq (fun K3 hK3 => ?_)
  refine W_region hT hG [] [1, 2, 3, 4, 22] ?_
  rw [hnt]
  simp only [baseS, eq_self, implies_true, if_true, if_false, reduceIte, Nat.reduceBEq, Nat.reduceEqDiff, Nat.reduceLT, Nat.reduceAdd, reduceCtorEq, tyInt, tdInt, tyHull, tdHull, tyBoxes, tdBoxes, tyInts, tdInts, c_spec_PlanValid, c_spec_l1In, c_spec_l10Port, decide_false, room, Nat.reduceLeDiff, Nat.zero_le, storeAV, rowQ, ownInts, FT.of, FT.setf, elems, appAV_I, appI, srcI, ownI, anyI, sameR, appAV_P, appP, srcP, ownP, anyP]
  repeat (refine And.intro ?_ ?_; focus (first | exact ordP (by kernel_rfl) | with_reducible exact rfl | assumption | trivial | (simp only [inR]; omega) | omega | exact ⟨by omega, by omega⟩ | exact ⟨by omega, by omega, by omega⟩ | exact ⟨by omega, ⟨by omega, by omega⟩, by assumption⟩ | exact ⟨by omega, by assumption⟩ | exact hfindj (by omega) | exact hfind (by omega) | exact ⟨by omega, hfind (by omega)⟩ | ((try simp only [decide_eq_true_eq, Bool.and_eq_true, ne_eq, decide_not, Bool.not_eq_true', Bool.not_eq_false', Bool.or_eq_false_iff, Bool.not_not, decide_eq_false_iff_not]); (try intro hh); (repeat' apply And.intro) <;> (first | omega | (simp only [inR]; omega) | assumption | exact ⟨by omega, ⟨by omega, by omega⟩, by assumption⟩ | exact ⟨by omega, by assumption⟩ | exact hfindj (by omega) | exact hfind (by omega) | exact ⟨by omega, hfind (by omega)⟩ | exact hh.1 | exact hh.2 | exact hh.2.1 | exact hh.2.2 | exact hh.1.1 | exact hh.1.2 | (intro hq; exact ⟨hh, hq⟩) | (intro hq; exact ⟨hh.1, hq⟩) | (simp_all; done)))))
  refine hK3 _ ?_
  clear hK3
  refine W_cond (b := _) rfl (fun hc4 => ?_) (fun hc4 => ?_)
  · try simp only [decide_eq_true_eq, decide_eq_false_iff_not, ne_eq, Decidable.not_not, Bool.not_eq_true', Bool.not_eq_false', Bool.or_eq_true, Bool.and_eq_true, Bool.or_eq_false_iff, Bool.and_eq_false_iff] at hc4
    refine W_seq (fun K5 hK5 => ?_)
    refine W_region hT hG [] [8] ?_
    rw [hnt]
    simp only [baseS, eq_self, implies_true, if_true, if_false, reduceIte, Nat.reduceBEq, Nat.reduceEqDiff, Nat.reduceLT, Nat.reduceAdd, reduceCtorEq, tyInt, tdInt, tyHull, tdHull, tyBoxes, tdBoxes, tyInts, tdInts, c_spec_PlanValid, c_spec_l1In, c_spec_l10Port, decide_false, room, Nat.reduceLeDiff, Nat.zero_le, storeAV, rowQ, ownInts, FT.of, FT.setf, elems, appAV_I, appI, srcI, ownI, anyI, sameR, appAV_P, appP, srcP, ownP, anyP]
    repeat (refine And.intro ?_ ?_; focus (first | exact ordP (by kernel_rfl) | with_reducible exact rfl | assumption | trivial | (simp only [inR]; omega) | omega | exact ⟨by omega, by omega⟩ | exact ⟨by omega, by omega, by omega⟩ | exact ⟨by omega, ⟨by omega, by omega⟩, by assumption⟩ | exact ⟨by omega, by assumption⟩ | exact hfindj (by omega) | exact hfind (by omega) | exact ⟨by omega, hfind (by omega)⟩ | ((try simp only [decide_eq_true_eq, Bool.and_eq_true, ne_eq, decide_not, Bool.not_eq_true', Bool.not_eq_false', Bool.or_eq_false_iff, Bool.not_not, decide_eq_false_iff_not]); (try intro hh); (repeat' apply And.intro) <;> (first | omega | (simp only [inR]; omega) | assumption | exact ⟨by omega, ⟨by omega, by omega⟩, by assumption⟩ | exact ⟨by omega, by assumption⟩ | exact hfindj (by omega) | exact hfind (by omega) | exact ⟨by omega, hfind (by omega)⟩ | exact hh.1 | exact hh.2 | exact hh.2.1 | exact hh.2.2 | exact hh.1.1 | exact hh.1.2 | (intro hq; exact ⟨hh, hq⟩) | (intro hq; exact ⟨hh.1, hq⟩) | (simp_all; done)))))
    refine hK5 _ ?_
    clear hK5
    refine W_re [(8, .own 3 .i64)] (by (try simp only [hnt, hnp]); rfl) ?_
    refine W_ret ?_
    simp only [thenQ, blockQ, loopQ, retQ, reduceIte, Nat.reduceEqDiff]
    refine ret1s 8 rfl rfl rfl ?_
    all_goals (
      first | exact aftR_no hc4 | (rw [aftR, if_pos hc4, hO, show q.toNat = p.length by omega]; done))
  · try simp only [decide_eq_true_eq, decide_eq_false_iff_not, ne_eq, Decidable.not_not, Bool.not_eq_true', Bool.not_eq_false', Bool.or_eq_true, Bool.and_eq_true, Bool.or_eq_false_iff, Bool.and_eq_false_iff] at hc4
    refine W_skip ?_
    simp only [thenQ, blockQ, loopQ, reduceIte, Nat.reduceEqDiff]
    refine hK2 _ ?_
    clear hK2
    refine W_seq (fun K6 hK6 => ?_)
    refine W_region hT hG [] [1, 2, 3, 4, 9] ?_
    rw [hnt]
    have hl36 := (planB_ok hc4.1).le
    simp only [baseS, eq_self, implies_true, if_true, if_false, reduceIte, Nat.reduceBEq, Nat.reduceEqDiff, Nat.reduceLT, Nat.reduceAdd, reduceCtorEq, tyInt, tdInt, tyHull, tdHull, tyBoxes, tdBoxes, tyInts, tdInts, c_spec_PlanValid, c_spec_l1In, c_spec_l10Port, decide_false, room, Nat.reduceLeDiff, Nat.zero_le, storeAV, rowQ, ownInts, FT.of, FT.setf, elems, appAV_I, appI, srcI, ownI, anyI, sameR, appAV_P, appP, srcP, ownP, anyP]
    repeat (refine And.intro ?_ ?_; focus (first | exact ordP (by kernel_rfl) | with_reducible exact rfl | assumption | trivial | (simp only [inR]; omega) | omega | exact ⟨by omega, by omega⟩ | exact ⟨by omega, by omega, by omega⟩ | exact ⟨by omega, ⟨by omega, by omega⟩, by assumption⟩ | exact ⟨by omega, by assumption⟩ | exact hfindj (by omega) | exact hfind (by omega) | exact ⟨by omega, hfind (by omega)⟩ | ((try simp only [decide_eq_true_eq, Bool.and_eq_true, ne_eq, decide_not, Bool.not_eq_true', Bool.not_eq_false', Bool.or_eq_false_iff, Bool.not_not, decide_eq_false_iff_not]); (try intro hh); (repeat' apply And.intro) <;> (first | omega | (simp only [inR]; omega) | assumption | exact ⟨by omega, ⟨by omega, by omega⟩, by assumption⟩ | exact ⟨by omega, by assumption⟩ | exact hfindj (by omega) | exact hfind (by omega) | exact ⟨by omega, hfind (by omega)⟩ | exact hh.1 | exact hh.2 | exact hh.2.1 | exact hh.2.2 | exact hh.1.1 | exact hh.1.2 | (intro hq; exact ⟨hh, hq⟩) | (intro hq; exact ⟨hh.1, hq⟩) | (simp_all; done)))))
    refine hK6 _ ?_
    clear hK6
    refine W_seq (fun K7 hK7 => ?_)
    refine W_seq (fun K8 hK8 => ?_)
    refine W_region hT hG [] [1, 2, 3, 4, 9, 10] ?_
    rw [hnt]
    simp only [baseS, eq_self, implies_true, if_true, if_false, reduceIte, Nat.reduceBEq, Nat.reduceEqDiff, Nat.reduceLT, Nat.reduceAdd, reduceCtorEq, tyInt, tdInt, tyHull, tdHull, tyBoxes, tdBoxes, tyInts, tdInts, c_spec_PlanValid, c_spec_l1In, c_spec_l10Port, decide_false, room, Nat.reduceLeDiff, Nat.zero_le, storeAV, rowQ, ownInts, FT.of, FT.setf, elems, appAV_I, appI, srcI, ownI, anyI, sameR, appAV_P, appP, srcP, ownP, anyP]
    repeat (refine And.intro ?_ ?_; focus (first | exact ordP (by kernel_rfl) | with_reducible exact rfl | assumption | trivial | (simp only [inR]; omega) | omega | exact ⟨by omega, by omega⟩ | exact ⟨by omega, by omega, by omega⟩ | exact ⟨by omega, ⟨by omega, by omega⟩, by assumption⟩ | exact ⟨by omega, by assumption⟩ | exact hfindj (by omega) | exact hfind (by omega) | exact ⟨by omega, hfind (by omega)⟩ | ((try simp only [decide_eq_true_eq, Bool.and_eq_true, ne_eq, decide_not, Bool.not_eq_true', Bool.not_eq_false', Bool.or_eq_false_iff, Bool.not_not, decide_eq_false_iff_not]); (try intro hh); (repeat' apply And.intro) <;> (first | omega | (simp only [inR]; omega) | assumption | exact ⟨by omega, ⟨by omega, by omega⟩, by assumption⟩ | exact ⟨by omega, by assumption⟩ | exact hfindj (by omega) | exact hfind (by omega) | exact ⟨by omega, hfind (by omega)⟩ | exact hh.1 | exact hh.2 | exact hh.2.1 | exact hh.2.2 | exact hh.1.1 | exact hh.1.2 | (intro hq; exact ⟨hh, hq⟩) | (intro hq; exact ⟨hh.1, hq⟩) | (simp_all; done)))))
    refine hK8 _ ?_
    clear hK8
    refine W_block ?_
    refine W_loop (α := Int × List Int) [(1, .as), (2, .as), (3, .as), (4, .as), (9, .own 3 .i64), (10, .as)] (fun x => ⟨[(1, .rs .box bs), (2, .rs .i64 p), (3, .int port), (4, .rp [.int b, .int r, .int t]), (9, .sl 9), (10, .int x.1)], [(9, some (.sl 3 .i64 x.2))], 68⟩) (fun x => 0 ≤ x.1 ∧ x.1 ≤ p.length ∧ x.1 % t = 0 ∧ x.2.length = p.length ∧ x.2 = (apTo t bs port p x.1.toNat).1) (fun x => (p.length - x.1).toNat) (0, List.replicate p.length 0) ?_ ?_ ?_
    · (try simp only [hnt, hnp]); rfl
    · exact ⟨by omega, by omega, by simp, by simp, rfl⟩
    rintro ⟨q, out⟩ ⟨hi0, hi1, hq, hl, hO⟩
    dsimp only at hi0 hi1 hq hl hO ⊢
    have hok := planB_ok hc4.1
    have hle := hok.le
    have htt := hv_t hok.ship
    have hre : q < p.length → q + t ≤ p.length ∧ (q + t) % t = 0 := fun h => by
      have := row_end (n := b * r) htt.2.2.2.2.1 hi0 hq (by have := hok.len; omega)
      exact ⟨by have := hok.len; omega, this.2⟩
    refine W_seq (fun K10 hK10 => ?_)
    refine W_seq (fun K11 hK11 => ?_)
    refine W_region hT hG [] [1, 2, 3, 4, 9, 10, 30] ?_
    rw [hnt]
    simp only [baseS, eq_self, implies_true, if_true, if_false, reduceIte, Nat.reduceBEq, Nat.reduceEqDiff, Nat.reduceLT, Nat.reduceAdd, reduceCtorEq, tyInt, tdInt, tyHull, tdHull, tyBoxes, tdBoxes, tyInts, tdInts, c_spec_PlanValid, c_spec_l1In, c_spec_l10Port, decide_false, room, Nat.reduceLeDiff, Nat.zero_le, storeAV, rowQ, ownInts, FT.of, FT.setf, elems, appAV_I, appI, srcI, ownI, anyI, sameR, appAV_P, appP, srcP, ownP, anyP]
    repeat (refine And.intro ?_ ?_; focus (first | exact ordP (by kernel_rfl) | with_reducible exact rfl | assumption | trivial | (simp only [inR]; omega) | omega | exact ⟨by omega, by omega⟩ | exact ⟨by omega, by omega, by omega⟩ | exact ⟨by omega, ⟨by omega, by omega⟩, by assumption⟩ | exact ⟨by omega, by assumption⟩ | exact hfindj (by omega) | exact hfind (by omega) | exact ⟨by omega, hfind (by omega)⟩ | ((try simp only [decide_eq_true_eq, Bool.and_eq_true, ne_eq, decide_not, Bool.not_eq_true', Bool.not_eq_false', Bool.or_eq_false_iff, Bool.not_not, decide_eq_false_iff_not]); (try intro hh); (repeat' apply And.intro) <;> (first | omega | (simp only [inR]; omega) | assumption | exact ⟨by omega, ⟨by omega, by omega⟩, by assumption⟩ | exact ⟨by omega, by assumption⟩ | exact hfindj (by omega) | exact hfind (by omega) | exact ⟨by omega, hfind (by omega)⟩ | exact hh.1 | exact hh.2 | exact hh.2.1 | exact hh.2.2 | exact hh.1.1 | exact hh.1.2 | (intro hq; exact ⟨hh, hq⟩) | (intro hq; exact ⟨hh.1, hq⟩) | (simp_all; done)))))
    refine hK11 _ ?_
    clear hK11
    refine W_cond (b := _) rfl (fun hc12 => ?_) (fun hc12 => ?_)
    · try simp only [decide_eq_true_eq, decide_eq_false_iff_not, ne_eq, Decidable.not_not, Bool.not_eq_true', Bool.not_eq_false', Bool.or_eq_true, Bool.and_eq_true, Bool.or_eq_false_iff, Bool.and_eq_false_iff] at hc12
      refine W_skip ?_
      simp only [thenQ, blockQ, loopQ, reduceIte, Nat.reduceEqDiff]
      refine hK10 _ ?_
      clear hK10
      refine W_seq (fun K13 hK13 => ?_)
      refine W_block ?_
      refine W_seq (fun K14 hK14 => ?_)
      refine W_region hT hG [] [1, 2, 3, 4, 9, 10, 11] ?_
      rw [hnt]
      simp only [baseS, eq_self, implies_true, if_true, if_false, reduceIte, Nat.reduceBEq, Nat.reduceEqDiff, Nat.reduceLT, Nat.reduceAdd, reduceCtorEq, tyInt, tdInt, tyHull, tdHull, tyBoxes, tdBoxes, tyInts, tdInts, c_spec_PlanValid, c_spec_l1In, c_spec_l10Port, decide_false, room, Nat.reduceLeDiff, Nat.zero_le, storeAV, rowQ, ownInts, FT.of, FT.setf, elems, appAV_I, appI, srcI, ownI, anyI, sameR, appAV_P, appP, srcP, ownP, anyP]
      repeat (refine And.intro ?_ ?_; focus (first | exact ordP (by kernel_rfl) | with_reducible exact rfl | assumption | trivial | (simp only [inR]; omega) | omega | exact ⟨by omega, by omega⟩ | exact ⟨by omega, by omega, by omega⟩ | exact ⟨by omega, ⟨by omega, by omega⟩, by assumption⟩ | exact ⟨by omega, by assumption⟩ | exact hfindj (by omega) | exact hfind (by omega) | exact ⟨by omega, hfind (by omega)⟩ | ((try simp only [decide_eq_true_eq, Bool.and_eq_true, ne_eq, decide_not, Bool.not_eq_true', Bool.not_eq_false', Bool.or_eq_false_iff, Bool.not_not, decide_eq_false_iff_not]); (try intro hh); (repeat' apply And.intro) <;> (first | omega | (simp only [inR]; omega) | assumption | exact ⟨by omega, ⟨by omega, by omega⟩, by assumption⟩ | exact ⟨by omega, by assumption⟩ | exact hfindj (by omega) | exact hfind (by omega) | exact ⟨by omega, hfind (by omega)⟩ | exact hh.1 | exact hh.2 | exact hh.2.1 | exact hh.2.2 | exact hh.1.1 | exact hh.1.2 | (intro hq; exact ⟨hh, hq⟩) | (intro hq; exact ⟨hh.1, hq⟩) | (simp_all; done)))))
      refine hK14 _ ?_
      clear hK14
      refine W_seq (fun K15 hK15 => ?_)
      refine W_region hT hG [] [1, 2, 3, 4, 9, 10, 11, 12] ?_
      rw [hnt]
      simp only [baseS, eq_self, implies_true, if_true, if_false, reduceIte, Nat.reduceBEq, Nat.reduceEqDiff, Nat.reduceLT, Nat.reduceAdd, reduceCtorEq, tyInt, tdInt, tyHull, tdHull, tyBoxes, tdBoxes, tyInts, tdInts, c_spec_PlanValid, c_spec_l1In, c_spec_l10Port, decide_false, room, Nat.reduceLeDiff, Nat.zero_le, storeAV, rowQ, ownInts, FT.of, FT.setf, elems, appAV_I, appI, srcI, ownI, anyI, sameR, appAV_P, appP, srcP, ownP, anyP]
      repeat (refine And.intro ?_ ?_; focus (first | exact ordP (by kernel_rfl) | with_reducible exact rfl | assumption | trivial | (simp only [inR]; omega) | omega | exact ⟨by omega, by omega⟩ | exact ⟨by omega, by omega, by omega⟩ | exact ⟨by omega, ⟨by omega, by omega⟩, by assumption⟩ | exact ⟨by omega, by assumption⟩ | exact hfindj (by omega) | exact hfind (by omega) | exact ⟨by omega, hfind (by omega)⟩ | ((try simp only [decide_eq_true_eq, Bool.and_eq_true, ne_eq, decide_not, Bool.not_eq_true', Bool.not_eq_false', Bool.or_eq_false_iff, Bool.not_not, decide_eq_false_iff_not]); (try intro hh); (repeat' apply And.intro) <;> (first | omega | (simp only [inR]; omega) | assumption | exact ⟨by omega, ⟨by omega, by omega⟩, by assumption⟩ | exact ⟨by omega, by assumption⟩ | exact hfindj (by omega) | exact hfind (by omega) | exact ⟨by omega, hfind (by omega)⟩ | exact hh.1 | exact hh.2 | exact hh.2.1 | exact hh.2.2 | exact hh.1.1 | exact hh.1.2 | (intro hq; exact ⟨hh, hq⟩) | (intro hq; exact ⟨hh.1, hq⟩) | (simp_all; done)))))
      refine hK15 _ ?_
      clear hK15
      refine W_block ?_
      refine W_loop (α := Int × List Int × Int) [(1, .as), (2, .as), (3, .as), (4, .as), (9, .own 3 .i64), (10, .as), (11, .as), (12, .as)] (fun y => ⟨[(1, .rs .box bs), (2, .rs .i64 p), (3, .int port), (4, .rp [.int b, .int r, .int t]), (9, .sl 9), (10, .int q), (11, .int y.2.2), (12, .int y.1)], [(9, some (.sl 3 .i64 y.2.1))], 68⟩) (fun y => q ≤ y.1 ∧ y.1 ≤ q + t ∧ y.2.1.length = p.length ∧ y.2.1 = (apTo t bs port p y.1.toNat).1 ∧ y.2.2 = (if y.1 = q then q else (apTo t bs port p y.1.toNat).2)) (fun y => (q + t - y.1).toNat) (q, out, q) ?_ ?_ ?_
      · (try simp only [hnt, hnp]); rfl
      · exact ⟨by omega, by dsimp only; omega, hl, hO, by simp⟩
      rintro ⟨k, o2, at_⟩ ⟨hk0, hk1, hl2, hO2, hat⟩
      dsimp only at hk0 hk1 hl2 hO2 hat ⊢
      have hre1 := hre hc12
      have hk2 : 0 ≤ k := by omega
      have hfindj := @PlanOK.find b r t bs p hok k.toNat
      have hst := apTo_step t bs port p hk2
      have hap := apTo_le t bs port p k.toNat
      have hal : 0 ≤ at_ ∧ at_ ≤ k := by rw [hat]; split <;> omega
      have hato : k < q + t → (if k % t = 0 then k else (apTo t bs port p k.toNat).2) = at_ := fun h => by
        rw [hat]
        by_cases e : k = q
        · rw [if_pos ((row_head htt.2.2.2.2.1 hq hk0 h).2 e), if_pos e]; exact e
        · rw [if_neg (fun h2 => e ((row_head htt.2.2.2.2.1 hq hk0 h).1 h2)), if_neg e]
      rw [← hO2] at hst
      refine W_seq (fun K17 hK17 => ?_)
      refine W_seq (fun K18 hK18 => ?_)
      refine W_region hT hG [] [1, 2, 3, 4, 9, 10, 11, 12, 42] ?_
      rw [hnt]
      simp only [baseS, eq_self, implies_true, if_true, if_false, reduceIte, Nat.reduceBEq, Nat.reduceEqDiff, Nat.reduceLT, Nat.reduceAdd, reduceCtorEq, tyInt, tdInt, tyHull, tdHull, tyBoxes, tdBoxes, tyInts, tdInts, c_spec_PlanValid, c_spec_l1In, c_spec_l10Port, decide_false, room, Nat.reduceLeDiff, Nat.zero_le, storeAV, rowQ, ownInts, FT.of, FT.setf, elems, appAV_I, appI, srcI, ownI, anyI, sameR, appAV_P, appP, srcP, ownP, anyP]
      repeat (refine And.intro ?_ ?_; focus (first | exact ordP (by kernel_rfl) | with_reducible exact rfl | assumption | trivial | (simp only [inR]; omega) | omega | exact ⟨by omega, by omega⟩ | exact ⟨by omega, by omega, by omega⟩ | exact ⟨by omega, ⟨by omega, by omega⟩, by assumption⟩ | exact ⟨by omega, by assumption⟩ | exact hfindj (by omega) | exact hfind (by omega) | exact ⟨by omega, hfind (by omega)⟩ | ((try simp only [decide_eq_true_eq, Bool.and_eq_true, ne_eq, decide_not, Bool.not_eq_true', Bool.not_eq_false', Bool.or_eq_false_iff, Bool.not_not, decide_eq_false_iff_not]); (try intro hh); (repeat' apply And.intro) <;> (first | omega | (simp only [inR]; omega) | assumption | exact ⟨by omega, ⟨by omega, by omega⟩, by assumption⟩ | exact ⟨by omega, by assumption⟩ | exact hfindj (by omega) | exact hfind (by omega) | exact ⟨by omega, hfind (by omega)⟩ | exact hh.1 | exact hh.2 | exact hh.2.1 | exact hh.2.2 | exact hh.1.1 | exact hh.1.2 | (intro hq; exact ⟨hh, hq⟩) | (intro hq; exact ⟨hh.1, hq⟩) | (simp_all; done)))))
      refine hK18 _ ?_
      clear hK18
      refine W_cond (b := _) rfl (fun hc19 => ?_) (fun hc19 => ?_)
      · try simp only [decide_eq_true_eq, decide_eq_false_iff_not, ne_eq, Decidable.not_not, Bool.not_eq_true', Bool.not_eq_false', Bool.or_eq_true, Bool.and_eq_true, Bool.or_eq_false_iff, Bool.and_eq_false_iff] at hc19
        refine W_skip ?_
        simp only [thenQ, blockQ, loopQ, reduceIte, Nat.reduceEqDiff]
        refine hK17 _ ?_
        clear hK17
        refine W_seq (fun K20 hK20 => ?_)
        refine W_block ?_
        refine W_seq (fun K21 hK21 => ?_)
        refine W_region hT hG [] [1, 2, 3, 4, 9, 10, 11, 12, 57] ?_
        rw [hnt]
        simp only [baseS, eq_self, implies_true, if_true, if_false, reduceIte, Nat.reduceBEq, Nat.reduceEqDiff, Nat.reduceLT, Nat.reduceAdd, reduceCtorEq, tyInt, tdInt, tyHull, tdHull, tyBoxes, tdBoxes, tyInts, tdInts, c_spec_PlanValid, c_spec_l1In, c_spec_l10Port, decide_false, room, Nat.reduceLeDiff, Nat.zero_le, storeAV, rowQ, ownInts, FT.of, FT.setf, elems, appAV_I, appI, srcI, ownI, anyI, sameR, appAV_P, appP, srcP, ownP, anyP]
        repeat (refine And.intro ?_ ?_; focus (first | exact ordP (by kernel_rfl) | with_reducible exact rfl | assumption | trivial | (simp only [inR]; omega) | omega | exact ⟨by omega, by omega⟩ | exact ⟨by omega, by omega, by omega⟩ | exact ⟨by omega, ⟨by omega, by omega⟩, by assumption⟩ | exact ⟨by omega, by assumption⟩ | exact hfindj (by omega) | exact hfind (by omega) | exact ⟨by omega, hfind (by omega)⟩ | ((try simp only [decide_eq_true_eq, Bool.and_eq_true, ne_eq, decide_not, Bool.not_eq_true', Bool.not_eq_false', Bool.or_eq_false_iff, Bool.not_not, decide_eq_false_iff_not]); (try intro hh); (repeat' apply And.intro) <;> (first | omega | (simp only [inR]; omega) | assumption | exact ⟨by omega, ⟨by omega, by omega⟩, by assumption⟩ | exact ⟨by omega, by assumption⟩ | exact hfindj (by omega) | exact hfind (by omega) | exact ⟨by omega, hfind (by omega)⟩ | exact hh.1 | exact hh.2 | exact hh.2.1 | exact hh.2.2 | exact hh.1.1 | exact hh.1.2 | (intro hq; exact ⟨hh, hq⟩) | (intro hq; exact ⟨hh.1, hq⟩) | (simp_all; done)))))
        refine hK21 _ ?_
        clear hK21
        refine W_cond (b := _) rfl (fun hc22 => ?_) (fun hc22 => ?_)
        · try simp only [decide_eq_true_eq, decide_eq_false_iff_not, ne_eq, Decidable.not_not, Bool.not_eq_true', Bool.not_eq_false', Bool.or_eq_true, Bool.and_eq_true, Bool.or_eq_false_iff, Bool.and_eq_false_iff] at hc22
          refine W_seq (fun K23 hK23 => ?_)
          refine W_region hT hG [] [1, 2, 3, 4, 9, 10, 11, 12] ?_
          rw [hnt]
          simp only [baseS, eq_self, implies_true, if_true, if_false, reduceIte, Nat.reduceBEq, Nat.reduceEqDiff, Nat.reduceLT, Nat.reduceAdd, reduceCtorEq, tyInt, tdInt, tyHull, tdHull, tyBoxes, tdBoxes, tyInts, tdInts, c_spec_PlanValid, c_spec_l1In, c_spec_l10Port, decide_false, room, Nat.reduceLeDiff, Nat.zero_le, storeAV, rowQ, ownInts, FT.of, FT.setf, elems, appAV_I, appI, srcI, ownI, anyI, sameR, appAV_P, appP, srcP, ownP, anyP]
          repeat (refine And.intro ?_ ?_; focus (first | exact ordP (by kernel_rfl) | with_reducible exact rfl | assumption | trivial | (simp only [inR]; omega) | omega | exact ⟨by omega, by omega⟩ | exact ⟨by omega, by omega, by omega⟩ | exact ⟨by omega, ⟨by omega, by omega⟩, by assumption⟩ | exact ⟨by omega, by assumption⟩ | exact hfindj (by omega) | exact hfind (by omega) | exact ⟨by omega, hfind (by omega)⟩ | ((try simp only [decide_eq_true_eq, Bool.and_eq_true, ne_eq, decide_not, Bool.not_eq_true', Bool.not_eq_false', Bool.or_eq_false_iff, Bool.not_not, decide_eq_false_iff_not]); (try intro hh); (repeat' apply And.intro) <;> (first | omega | (simp only [inR]; omega) | assumption | exact ⟨by omega, ⟨by omega, by omega⟩, by assumption⟩ | exact ⟨by omega, by assumption⟩ | exact hfindj (by omega) | exact hfind (by omega) | exact ⟨by omega, hfind (by omega)⟩ | exact hh.1 | exact hh.2 | exact hh.2.1 | exact hh.2.2 | exact hh.1.1 | exact hh.1.2 | (intro hq; exact ⟨hh, hq⟩) | (intro hq; exact ⟨hh.1, hq⟩) | (simp_all; done)))))
          refine hK23 _ ?_
          clear hK23
          refine W_region hT hG [] [1, 2, 3, 4, 9, 10, 11, 12] ?_
          rw [hnt]
          simp only [baseS, eq_self, implies_true, if_true, if_false, reduceIte, Nat.reduceBEq, Nat.reduceEqDiff, Nat.reduceLT, Nat.reduceAdd, reduceCtorEq, tyInt, tdInt, tyHull, tdHull, tyBoxes, tdBoxes, tyInts, tdInts, c_spec_PlanValid, c_spec_l1In, c_spec_l10Port, decide_false, room, Nat.reduceLeDiff, Nat.zero_le, storeAV, rowQ, ownInts, FT.of, FT.setf, elems, appAV_I, appI, srcI, ownI, anyI, sameR, appAV_P, appP, srcP, ownP, anyP]
          repeat (refine And.intro ?_ ?_; focus (first | exact ordP (by kernel_rfl) | with_reducible exact rfl | assumption | trivial | (simp only [inR]; omega) | omega | exact ⟨by omega, by omega⟩ | exact ⟨by omega, by omega, by omega⟩ | exact ⟨by omega, ⟨by omega, by omega⟩, by assumption⟩ | exact ⟨by omega, by assumption⟩ | exact hfindj (by omega) | exact hfind (by omega) | exact ⟨by omega, hfind (by omega)⟩ | ((try simp only [decide_eq_true_eq, Bool.and_eq_true, ne_eq, decide_not, Bool.not_eq_true', Bool.not_eq_false', Bool.or_eq_false_iff, Bool.not_not, decide_eq_false_iff_not]); (try intro hh); (repeat' apply And.intro) <;> (first | omega | (simp only [inR]; omega) | assumption | exact ⟨by omega, ⟨by omega, by omega⟩, by assumption⟩ | exact ⟨by omega, by assumption⟩ | exact hfindj (by omega) | exact hfind (by omega) | exact ⟨by omega, hfind (by omega)⟩ | exact hh.1 | exact hh.2 | exact hh.2.1 | exact hh.2.2 | exact hh.1.1 | exact hh.1.2 | (intro hq; exact ⟨hh, hq⟩) | (intro hq; exact ⟨hh.1, hq⟩) | (simp_all; done)))))
          refine hK20 _ ?_
          clear hK20
          refine W_region hT hG [] [1, 2, 3, 4, 9, 10, 11, 12] ?_
          rw [hnt]
          simp only [baseS, eq_self, implies_true, if_true, if_false, reduceIte, Nat.reduceBEq, Nat.reduceEqDiff, Nat.reduceLT, Nat.reduceAdd, reduceCtorEq, tyInt, tdInt, tyHull, tdHull, tyBoxes, tdBoxes, tyInts, tdInts, c_spec_PlanValid, c_spec_l1In, c_spec_l10Port, decide_false, room, Nat.reduceLeDiff, Nat.zero_le, storeAV, rowQ, ownInts, FT.of, FT.setf, elems, appAV_I, appI, srcI, ownI, anyI, sameR, appAV_P, appP, srcP, ownP, anyP]
          repeat (refine And.intro ?_ ?_; focus (first | exact ordP (by kernel_rfl) | with_reducible exact rfl | assumption | trivial | (simp only [inR]; omega) | omega | exact ⟨by omega, by omega⟩ | exact ⟨by omega, by omega, by omega⟩ | exact ⟨by omega, ⟨by omega, by omega⟩, by assumption⟩ | exact ⟨by omega, by assumption⟩ | exact hfindj (by omega) | exact hfind (by omega) | exact ⟨by omega, hfind (by omega)⟩ | ((try simp only [decide_eq_true_eq, Bool.and_eq_true, ne_eq, decide_not, Bool.not_eq_true', Bool.not_eq_false', Bool.or_eq_false_iff, Bool.not_not, decide_eq_false_iff_not]); (try intro hh); (repeat' apply And.intro) <;> (first | omega | (simp only [inR]; omega) | assumption | exact ⟨by omega, ⟨by omega, by omega⟩, by assumption⟩ | exact ⟨by omega, by assumption⟩ | exact hfindj (by omega) | exact hfind (by omega) | exact ⟨by omega, hfind (by omega)⟩ | exact hh.1 | exact hh.2 | exact hh.2.1 | exact hh.2.2 | exact hh.1.1 | exact hh.1.2 | (intro hq; exact ⟨hh, hq⟩) | (intro hq; exact ⟨hh.1, hq⟩) | (simp_all; done)))))
          have hst2 := hst
          rw [hato hc19] at hst2
          first
          | (rw [if_pos hc22] at hst2; refine ⟨(k + 1, _, _), (by (try simp only [hnt, hnp]); rfl), ⟨by dsimp only; omega, by dsimp only; omega, by dsimp only; rw [List.length_set]; exact hl2, by dsimp only; rw [hst2], by dsimp only; rw [hst2, if_neg (by omega)]⟩, by dsimp only; omega⟩)
          | (rw [if_neg (by intro hh; exact hc22.elim (fun h => hh.1 h) (fun h => hh.2 h))] at hst2; refine ⟨(k + 1, _, _), (by (try simp only [hnt, hnp]); rfl), ⟨by dsimp only; omega, by dsimp only; omega, hl2, by dsimp only; rw [hst2], by dsimp only; rw [hst2, if_neg (by omega)]⟩, by dsimp only; omega⟩)
        · try simp only [decide_eq_true_eq, decide_eq_false_iff_not, ne_eq, Decidable.not_not, Bool.not_eq_true', Bool.not_eq_false', Bool.or_eq_true, Bool.and_eq_true, Bool.or_eq_false_iff, Bool.and_eq_false_iff] at hc22
          refine W_skip ?_
          simp only [thenQ, blockQ, loopQ, reduceIte, Nat.reduceEqDiff]
          refine hK20 _ ?_
          clear hK20
          refine W_region hT hG [] [1, 2, 3, 4, 9, 10, 11, 12] ?_
          rw [hnt]
          simp only [baseS, eq_self, implies_true, if_true, if_false, reduceIte, Nat.reduceBEq, Nat.reduceEqDiff, Nat.reduceLT, Nat.reduceAdd, reduceCtorEq, tyInt, tdInt, tyHull, tdHull, tyBoxes, tdBoxes, tyInts, tdInts, c_spec_PlanValid, c_spec_l1In, c_spec_l10Port, decide_false, room, Nat.reduceLeDiff, Nat.zero_le, storeAV, rowQ, ownInts, FT.of, FT.setf, elems, appAV_I, appI, srcI, ownI, anyI, sameR, appAV_P, appP, srcP, ownP, anyP]
          repeat (refine And.intro ?_ ?_; focus (first | exact ordP (by kernel_rfl) | with_reducible exact rfl | assumption | trivial | (simp only [inR]; omega) | omega | exact ⟨by omega, by omega⟩ | exact ⟨by omega, by omega, by omega⟩ | exact ⟨by omega, ⟨by omega, by omega⟩, by assumption⟩ | exact ⟨by omega, by assumption⟩ | exact hfindj (by omega) | exact hfind (by omega) | exact ⟨by omega, hfind (by omega)⟩ | ((try simp only [decide_eq_true_eq, Bool.and_eq_true, ne_eq, decide_not, Bool.not_eq_true', Bool.not_eq_false', Bool.or_eq_false_iff, Bool.not_not, decide_eq_false_iff_not]); (try intro hh); (repeat' apply And.intro) <;> (first | omega | (simp only [inR]; omega) | assumption | exact ⟨by omega, ⟨by omega, by omega⟩, by assumption⟩ | exact ⟨by omega, by assumption⟩ | exact hfindj (by omega) | exact hfind (by omega) | exact ⟨by omega, hfind (by omega)⟩ | exact hh.1 | exact hh.2 | exact hh.2.1 | exact hh.2.2 | exact hh.1.1 | exact hh.1.2 | (intro hq; exact ⟨hh, hq⟩) | (intro hq; exact ⟨hh.1, hq⟩) | (simp_all; done)))))
          have hst2 := hst
          rw [hato hc19] at hst2
          first
          | (rw [if_pos hc22] at hst2; refine ⟨(k + 1, _, _), (by (try simp only [hnt, hnp]); rfl), ⟨by dsimp only; omega, by dsimp only; omega, by dsimp only; rw [List.length_set]; exact hl2, by dsimp only; rw [hst2], by dsimp only; rw [hst2, if_neg (by omega)]⟩, by dsimp only; omega⟩)
          | (rw [if_neg (by intro hh; exact hc22.elim (fun h => hh.1 h) (fun h => hh.2 h))] at hst2; refine ⟨(k + 1, _, _), (by (try simp only [hnt, hnp]); rfl), ⟨by dsimp only; omega, by dsimp only; omega, hl2, by dsimp only; rw [hst2], by dsimp only; rw [hst2, if_neg (by omega)]⟩, by dsimp only; omega⟩)
      · try simp only [decide_eq_true_eq, decide_eq_false_iff_not, ne_eq, Decidable.not_not, Bool.not_eq_true', Bool.not_eq_false', Bool.or_eq_true, Bool.and_eq_true, Bool.or_eq_false_iff, Bool.and_eq_false_iff] at hc19
        refine W_exit ?_
        simp only [thenQ, blockQ, loopQ, reduceIte, Nat.reduceEqDiff]
        refine hK13 _ ?_
        clear hK13
        refine W_region hT hG [] [1, 2, 3, 4, 9, 10] ?_
        rw [hnt]
        simp only [baseS, eq_self, implies_true, if_true, if_false, reduceIte, Nat.reduceBEq, Nat.reduceEqDiff, Nat.reduceLT, Nat.reduceAdd, reduceCtorEq, tyInt, tdInt, tyHull, tdHull, tyBoxes, tdBoxes, tyInts, tdInts, c_spec_PlanValid, c_spec_l1In, c_spec_l10Port, decide_false, room, Nat.reduceLeDiff, Nat.zero_le, storeAV, rowQ, ownInts, FT.of, FT.setf, elems, appAV_I, appI, srcI, ownI, anyI, sameR, appAV_P, appP, srcP, ownP, anyP]
        repeat (refine And.intro ?_ ?_; focus (first | exact ordP (by kernel_rfl) | with_reducible exact rfl | assumption | trivial | (simp only [inR]; omega) | omega | exact ⟨by omega, by omega⟩ | exact ⟨by omega, by omega, by omega⟩ | exact ⟨by omega, ⟨by omega, by omega⟩, by assumption⟩ | exact ⟨by omega, by assumption⟩ | exact hfindj (by omega) | exact hfind (by omega) | exact ⟨by omega, hfind (by omega)⟩ | ((try simp only [decide_eq_true_eq, Bool.and_eq_true, ne_eq, decide_not, Bool.not_eq_true', Bool.not_eq_false', Bool.or_eq_false_iff, Bool.not_not, decide_eq_false_iff_not]); (try intro hh); (repeat' apply And.intro) <;> (first | omega | (simp only [inR]; omega) | assumption | exact ⟨by omega, ⟨by omega, by omega⟩, by assumption⟩ | exact ⟨by omega, by assumption⟩ | exact hfindj (by omega) | exact hfind (by omega) | exact ⟨by omega, hfind (by omega)⟩ | exact hh.1 | exact hh.2 | exact hh.2.1 | exact hh.2.2 | exact hh.1.1 | exact hh.1.2 | (intro hq; exact ⟨hh, hq⟩) | (intro hq; exact ⟨hh.1, hq⟩) | (simp_all; done)))))
        refine ⟨(q + t, o2), (by (try simp only [hnt, hnp]); rfl), ⟨by dsimp only; omega, by dsimp only; omega, hre1.2, hl2, ?_⟩, by dsimp only; omega⟩
        dsimp only
        rw [hO2, show k = q + t by omega]
    · try simp only [decide_eq_true_eq, decide_eq_false_iff_not, ne_eq, Decidable.not_not, Bool.not_eq_true', Bool.not_eq_false', Bool.or_eq_true, Bool.and_eq_true, Bool.or_eq_false_iff, Bool.and_eq_false_iff] at hc12
      refine W_exit ?_
      simp only [thenQ, blockQ, loopQ, reduceIte, Nat.reduceEqDiff]
      refine hK7 _ ?_
      clear hK7
      refine W_seq (fun K24 hK24 => ?_)
      refine W_region hT hG [] [8] ?_
      rw [hnt]
      simp only [baseS, eq_self, implies_true, if_true, if_false, reduceIte, Nat.reduceBEq, Nat.reduceEqDiff, Nat.reduceLT, Nat.reduceAdd, reduceCtorEq, tyInt, tdInt, tyHull, tdHull, tyBoxes, tdBoxes, tyInts, tdInts, c_spec_PlanValid, c_spec_l1In, c_spec_l10Port, decide_false, room, Nat.reduceLeDiff, Nat.zero_le, storeAV, rowQ, ownInts, FT.of, FT.setf, elems, appAV_I, appI, srcI, ownI, anyI, sameR, appAV_P, appP, srcP, ownP, anyP]
      repeat (refine And.intro ?_ ?_; focus (first | exact ordP (by kernel_rfl) | with_reducible exact rfl | assumption | trivial | (simp only [inR]; omega) | omega | exact ⟨by omega, by omega⟩ | exact ⟨by omega, by omega, by omega⟩ | exact ⟨by omega, ⟨by omega, by omega⟩, by assumption⟩ | exact ⟨by omega, by assumption⟩ | exact hfindj (by omega) | exact hfind (by omega) | exact ⟨by omega, hfind (by omega)⟩ | ((try simp only [decide_eq_true_eq, Bool.and_eq_true, ne_eq, decide_not, Bool.not_eq_true', Bool.not_eq_false', Bool.or_eq_false_iff, Bool.not_not, decide_eq_false_iff_not]); (try intro hh); (repeat' apply And.intro) <;> (first | omega | (simp only [inR]; omega) | assumption | exact ⟨by omega, ⟨by omega, by omega⟩, by assumption⟩ | exact ⟨by omega, by assumption⟩ | exact hfindj (by omega) | exact hfind (by omega) | exact ⟨by omega, hfind (by omega)⟩ | exact hh.1 | exact hh.2 | exact hh.2.1 | exact hh.2.2 | exact hh.1.1 | exact hh.1.2 | (intro hq; exact ⟨hh, hq⟩) | (intro hq; exact ⟨hh.1, hq⟩) | (simp_all; done)))))
      refine hK24 _ ?_
      clear hK24
      refine W_re [(8, .own 3 .i64)] (by (try simp only [hnt, hnp]); rfl) ?_
      refine W_ret ?_
      simp only [thenQ, blockQ, loopQ, retQ, reduceIte, Nat.reduceEqDiff]
      refine ret1s 8 rfl rfl rfl ?_
      all_goals (
        first | exact aftR_no hc12 | (rw [aftR, if_pos hc4, hO, show q.toNat = p.length by omega]; done))

end Go.Proofs.Ytjkghldkemoddaa
