/- Walks over moves at a port. No condition. -/
import Derived.Test.YtjkghldkemoddaaPortA
namespace Go.Proofs.Ytjkghldkemoddaa
open Go
set_option linter.unusedVariables false
set_option linter.unusedSimpArgs false

def c_impl_PortMoves : Ctr where
  modes := [.v .p, .v (.r .box), .v (.r .i64), .v .p]
  al := false
  run := fun xs os => match xs, os with
    | [.agg [.int b, .int r, .int t], .rs .box bs, .rs .i64 p, .int port], [] => some ⟨bs.length ≤ 9223372036854775807 ∧ p.length ≤ 9223372036854775807, .sl 0, [.sl 3 .i64 (offR b r t bs p port)], []⟩
    | _, _ => none
theorem m_impl_PortMoves : Meets Try.prog 40 c_impl_PortMoves := by
  refine meets_of (T := tyT) tyOK Try.func40 (by rfl) rfl (by decide) ?_
  intro args owns R hrun hpre
  simp only [c_impl_PortMoves] at hrun
  split at hrun
  case h_2 => cases hrun
  rename_i b r t bs p port
  cases hrun
  try dsimp only at hpre
  refine ⟨_, rfl, fun E hP hnt hnp => ?_⟩
  replace hnt : E.nt = 51 := hnt
  replace hnp : E.np = 4 := hnp
  have hT : ∀ t d, tyT t = some d → TyOK E.P t d := hP ▸ tyOK
  have hG : ∀ f C, Γof [(51, c_impl_PlanValid), (75, c_impl_within), (76, c_impl_Hull_tier), (90, c_impl_portAt)] f = some C → Meets E.P f C := hΓof (by rw [hP]; exact ⟨m_impl_PlanValid, m_impl_within, m_impl_Hull_tier, m_impl_portAt, trivial⟩)
  try simp only [show Try.f40.ntmps = 51 from rfl]
  have hbs := hpre.1
  have hp := hpre.2
  refine W_seq (fun K1 hK1 => ?_)
  refine W_region hT hG [] [1, 2, 3, 4] ?_
  rw [hnt]
  simp only [baseS, eq_self, implies_true, if_true, if_false, reduceIte, Nat.reduceBEq, Nat.reduceEqDiff, Nat.reduceLT, Nat.reduceAdd, reduceCtorEq, tyInt, tdInt, tyHull, tdHull, tyBoxes, tdBoxes, tyInts, tdInts, c_impl_PlanValid, c_impl_within, c_impl_Hull_tier, c_impl_portAt, decide_false, room, Nat.reduceLeDiff, Nat.zero_le, storeAV, rowQ, ownInts, FT.of, FT.setf, elems, appAV_I, appI, srcI, ownI, anyI, sameR, appAV_P, appP, srcP, ownP, anyP]
  repeat (refine And.intro ?_ ?_; focus (first | exact ordP (by kernel_rfl) | with_reducible exact rfl | assumption | trivial | (simp only [inR]; omega) | omega | exact ⟨by omega, by omega⟩ | exact ⟨by omega, by omega, by omega⟩ | exact ⟨by omega, ⟨by omega, by omega⟩, by assumption⟩ | exact ⟨by omega, by assumption⟩ | exact hfindj (by omega) | exact hfind (by omega) | exact ⟨by omega, hfind (by omega)⟩ | ((try simp only [decide_eq_true_eq, Bool.and_eq_true, ne_eq, decide_not, Bool.not_eq_true', Bool.not_eq_false', Bool.or_eq_false_iff, Bool.not_not, decide_eq_false_iff_not]); (try intro hh); (repeat' apply And.intro) <;> (first | omega | (simp only [inR]; omega) | assumption | exact ⟨by omega, ⟨by omega, by omega⟩, by assumption⟩ | exact ⟨by omega, by assumption⟩ | exact hfindj (by omega) | exact hfind (by omega) | exact ⟨by omega, hfind (by omega)⟩ | exact hh.1 | exact hh.2 | exact hh.2.1 | exact hh.2.2 | exact hh.1.1 | exact hh.1.2 | (intro hq; exact ⟨hh, hq⟩) | (intro hq; exact ⟨hh.1, hq⟩) | (simp_all; done)))))
  refine hK1 _ ?_
  clear hK1
  refine W_seq (fun K2 hK2 => ?_)
  refine W_seq (fun K3 hK3 => ?_)
  refine W_region hT hG [] [1, 2, 3, 4, 22] ?_
  rw [hnt]
  simp only [baseS, eq_self, implies_true, if_true, if_false, reduceIte, Nat.reduceBEq, Nat.reduceEqDiff, Nat.reduceLT, Nat.reduceAdd, reduceCtorEq, tyInt, tdInt, tyHull, tdHull, tyBoxes, tdBoxes, tyInts, tdInts, c_impl_PlanValid, c_impl_within, c_impl_Hull_tier, c_impl_portAt, decide_false, room, Nat.reduceLeDiff, Nat.zero_le, storeAV, rowQ, ownInts, FT.of, FT.setf, elems, appAV_I, appI, srcI, ownI, anyI, sameR, appAV_P, appP, srcP, ownP, anyP]
  repeat (refine And.intro ?_ ?_; focus (first | exact ordP (by kernel_rfl) | with_reducible exact rfl | assumption | trivial | (simp only [inR]; omega) | omega | exact ⟨by omega, by omega⟩ | exact ⟨by omega, by omega, by omega⟩ | exact ⟨by omega, ⟨by omega, by omega⟩, by assumption⟩ | exact ⟨by omega, by assumption⟩ | exact hfindj (by omega) | exact hfind (by omega) | exact ⟨by omega, hfind (by omega)⟩ | ((try simp only [decide_eq_true_eq, Bool.and_eq_true, ne_eq, decide_not, Bool.not_eq_true', Bool.not_eq_false', Bool.or_eq_false_iff, Bool.not_not, decide_eq_false_iff_not]); (try intro hh); (repeat' apply And.intro) <;> (first | omega | (simp only [inR]; omega) | assumption | exact ⟨by omega, ⟨by omega, by omega⟩, by assumption⟩ | exact ⟨by omega, by assumption⟩ | exact hfindj (by omega) | exact hfind (by omega) | exact ⟨by omega, hfind (by omega)⟩ | exact hh.1 | exact hh.2 | exact hh.2.1 | exact hh.2.2 | exact hh.1.1 | exact hh.1.2 | (intro hq; exact ⟨hh, hq⟩) | (intro hq; exact ⟨hh.1, hq⟩) | (simp_all; done)))))
  refine hK3 _ ?_
  clear hK3
  refine W_cond (b := _) rfl (fun hc4 => ?_) (fun hc4 => ?_)
  · try simp only [decide_eq_true_eq, decide_eq_false_iff_not, ne_eq, Decidable.not_not, Bool.not_eq_true', Bool.not_eq_false', Bool.or_eq_true, Bool.and_eq_true, Bool.or_eq_false_iff, Bool.and_eq_false_iff] at hc4
    refine W_seq (fun K5 hK5 => ?_)
    refine W_region hT hG [] [8] ?_
    rw [hnt]
    simp only [baseS, eq_self, implies_true, if_true, if_false, reduceIte, Nat.reduceBEq, Nat.reduceEqDiff, Nat.reduceLT, Nat.reduceAdd, reduceCtorEq, tyInt, tdInt, tyHull, tdHull, tyBoxes, tdBoxes, tyInts, tdInts, c_impl_PlanValid, c_impl_within, c_impl_Hull_tier, c_impl_portAt, decide_false, room, Nat.reduceLeDiff, Nat.zero_le, storeAV, rowQ, ownInts, FT.of, FT.setf, elems, appAV_I, appI, srcI, ownI, anyI, sameR, appAV_P, appP, srcP, ownP, anyP]
    repeat (refine And.intro ?_ ?_; focus (first | exact ordP (by kernel_rfl) | with_reducible exact rfl | assumption | trivial | (simp only [inR]; omega) | omega | exact ⟨by omega, by omega⟩ | exact ⟨by omega, by omega, by omega⟩ | exact ⟨by omega, ⟨by omega, by omega⟩, by assumption⟩ | exact ⟨by omega, by assumption⟩ | exact hfindj (by omega) | exact hfind (by omega) | exact ⟨by omega, hfind (by omega)⟩ | ((try simp only [decide_eq_true_eq, Bool.and_eq_true, ne_eq, decide_not, Bool.not_eq_true', Bool.not_eq_false', Bool.or_eq_false_iff, Bool.not_not, decide_eq_false_iff_not]); (try intro hh); (repeat' apply And.intro) <;> (first | omega | (simp only [inR]; omega) | assumption | exact ⟨by omega, ⟨by omega, by omega⟩, by assumption⟩ | exact ⟨by omega, by assumption⟩ | exact hfindj (by omega) | exact hfind (by omega) | exact ⟨by omega, hfind (by omega)⟩ | exact hh.1 | exact hh.2 | exact hh.2.1 | exact hh.2.2 | exact hh.1.1 | exact hh.1.2 | (intro hq; exact ⟨hh, hq⟩) | (intro hq; exact ⟨hh.1, hq⟩) | (simp_all; done)))))
    refine hK5 _ ?_
    clear hK5
    refine W_re [(8, .own 3 .i64)] (by (try simp only [hnt, hnp]); rfl) ?_
    refine W_ret ?_
    simp only [thenQ, blockQ, loopQ, retQ, reduceIte, Nat.reduceEqDiff]
    refine ret1s 8 rfl rfl rfl ?_
    all_goals (
      first | exact offR_no hc4 | (rw [offR, if_pos hc4, hO, show i.toNat = p.length by omega]; done))
  · try simp only [decide_eq_true_eq, decide_eq_false_iff_not, ne_eq, Decidable.not_not, Bool.not_eq_true', Bool.not_eq_false', Bool.or_eq_true, Bool.and_eq_true, Bool.or_eq_false_iff, Bool.and_eq_false_iff] at hc4
    refine W_skip ?_
    simp only [thenQ, blockQ, loopQ, reduceIte, Nat.reduceEqDiff]
    refine hK2 _ ?_
    clear hK2
    refine W_seq (fun K6 hK6 => ?_)
    refine W_region hT hG [] [1, 2, 3, 4, 9] ?_
    rw [hnt]
    simp only [baseS, eq_self, implies_true, if_true, if_false, reduceIte, Nat.reduceBEq, Nat.reduceEqDiff, Nat.reduceLT, Nat.reduceAdd, reduceCtorEq, tyInt, tdInt, tyHull, tdHull, tyBoxes, tdBoxes, tyInts, tdInts, c_impl_PlanValid, c_impl_within, c_impl_Hull_tier, c_impl_portAt, decide_false, room, Nat.reduceLeDiff, Nat.zero_le, storeAV, rowQ, ownInts, FT.of, FT.setf, elems, appAV_I, appI, srcI, ownI, anyI, sameR, appAV_P, appP, srcP, ownP, anyP]
    repeat (refine And.intro ?_ ?_; focus (first | exact ordP (by kernel_rfl) | with_reducible exact rfl | assumption | trivial | (simp only [inR]; omega) | omega | exact ⟨by omega, by omega⟩ | exact ⟨by omega, by omega, by omega⟩ | exact ⟨by omega, ⟨by omega, by omega⟩, by assumption⟩ | exact ⟨by omega, by assumption⟩ | exact hfindj (by omega) | exact hfind (by omega) | exact ⟨by omega, hfind (by omega)⟩ | ((try simp only [decide_eq_true_eq, Bool.and_eq_true, ne_eq, decide_not, Bool.not_eq_true', Bool.not_eq_false', Bool.or_eq_false_iff, Bool.not_not, decide_eq_false_iff_not]); (try intro hh); (repeat' apply And.intro) <;> (first | omega | (simp only [inR]; omega) | assumption | exact ⟨by omega, ⟨by omega, by omega⟩, by assumption⟩ | exact ⟨by omega, by assumption⟩ | exact hfindj (by omega) | exact hfind (by omega) | exact ⟨by omega, hfind (by omega)⟩ | exact hh.1 | exact hh.2 | exact hh.2.1 | exact hh.2.2 | exact hh.1.1 | exact hh.1.2 | (intro hq; exact ⟨hh, hq⟩) | (intro hq; exact ⟨hh.1, hq⟩) | (simp_all; done)))))
    refine hK6 _ ?_
    clear hK6
    refine W_seq (fun K7 hK7 => ?_)
    refine W_region hT hG [] [1, 2, 3, 4, 9, 10] ?_
    rw [hnt]
    simp only [baseS, eq_self, implies_true, if_true, if_false, reduceIte, Nat.reduceBEq, Nat.reduceEqDiff, Nat.reduceLT, Nat.reduceAdd, reduceCtorEq, tyInt, tdInt, tyHull, tdHull, tyBoxes, tdBoxes, tyInts, tdInts, c_impl_PlanValid, c_impl_within, c_impl_Hull_tier, c_impl_portAt, decide_false, room, Nat.reduceLeDiff, Nat.zero_le, storeAV, rowQ, ownInts, FT.of, FT.setf, elems, appAV_I, appI, srcI, ownI, anyI, sameR, appAV_P, appP, srcP, ownP, anyP]
    repeat (refine And.intro ?_ ?_; focus (first | exact ordP (by kernel_rfl) | with_reducible exact rfl | assumption | trivial | (simp only [inR]; omega) | omega | exact ⟨by omega, by omega⟩ | exact ⟨by omega, by omega, by omega⟩ | exact ⟨by omega, ⟨by omega, by omega⟩, by assumption⟩ | exact ⟨by omega, by assumption⟩ | exact hfindj (by omega) | exact hfind (by omega) | exact ⟨by omega, hfind (by omega)⟩ | ((try simp only [decide_eq_true_eq, Bool.and_eq_true, ne_eq, decide_not, Bool.not_eq_true', Bool.not_eq_false', Bool.or_eq_false_iff, Bool.not_not, decide_eq_false_iff_not]); (try intro hh); (repeat' apply And.intro) <;> (first | omega | (simp only [inR]; omega) | assumption | exact ⟨by omega, ⟨by omega, by omega⟩, by assumption⟩ | exact ⟨by omega, by assumption⟩ | exact hfindj (by omega) | exact hfind (by omega) | exact ⟨by omega, hfind (by omega)⟩ | exact hh.1 | exact hh.2 | exact hh.2.1 | exact hh.2.2 | exact hh.1.1 | exact hh.1.2 | (intro hq; exact ⟨hh, hq⟩) | (intro hq; exact ⟨hh.1, hq⟩) | (simp_all; done)))))
    refine hK7 _ ?_
    clear hK7
    refine W_seq (fun K8 hK8 => ?_)
    refine W_seq (fun K9 hK9 => ?_)
    refine W_region hT hG [] [1, 3, 4, 9, 10, 23, 24, 25] ?_
    rw [hnt]
    simp only [baseS, eq_self, implies_true, if_true, if_false, reduceIte, Nat.reduceBEq, Nat.reduceEqDiff, Nat.reduceLT, Nat.reduceAdd, reduceCtorEq, tyInt, tdInt, tyHull, tdHull, tyBoxes, tdBoxes, tyInts, tdInts, c_impl_PlanValid, c_impl_within, c_impl_Hull_tier, c_impl_portAt, decide_false, room, Nat.reduceLeDiff, Nat.zero_le, storeAV, rowQ, ownInts, FT.of, FT.setf, elems, appAV_I, appI, srcI, ownI, anyI, sameR, appAV_P, appP, srcP, ownP, anyP]
    repeat (refine And.intro ?_ ?_; focus (first | exact ordP (by kernel_rfl) | with_reducible exact rfl | assumption | trivial | (simp only [inR]; omega) | omega | exact ⟨by omega, by omega⟩ | exact ⟨by omega, by omega, by omega⟩ | exact ⟨by omega, ⟨by omega, by omega⟩, by assumption⟩ | exact ⟨by omega, by assumption⟩ | exact hfindj (by omega) | exact hfind (by omega) | exact ⟨by omega, hfind (by omega)⟩ | ((try simp only [decide_eq_true_eq, Bool.and_eq_true, ne_eq, decide_not, Bool.not_eq_true', Bool.not_eq_false', Bool.or_eq_false_iff, Bool.not_not, decide_eq_false_iff_not]); (try intro hh); (repeat' apply And.intro) <;> (first | omega | (simp only [inR]; omega) | assumption | exact ⟨by omega, ⟨by omega, by omega⟩, by assumption⟩ | exact ⟨by omega, by assumption⟩ | exact hfindj (by omega) | exact hfind (by omega) | exact ⟨by omega, hfind (by omega)⟩ | exact hh.1 | exact hh.2 | exact hh.2.1 | exact hh.2.2 | exact hh.1.1 | exact hh.1.2 | (intro hq; exact ⟨hh, hq⟩) | (intro hq; exact ⟨hh.1, hq⟩) | (simp_all; done)))))
    refine hK9 _ ?_
    clear hK9
    refine W_block ?_
    refine W_loop (α := Int × List Int × Bool) [(1, .as), (3, .as), (4, .as), (9, .own 3 .i64), (10, .as), (23, .as), (24, .as), (25, .as)] (fun x => ⟨[(1, .rs .box bs), (3, .int port), (4, .rp [.int b, .int r, .int t]), (9, .sl 9), (10, .bool x.2.2), (23, .rs .i64 p), (24, .int p.length), (25, .int x.1)], [(9, some (.sl 3 .i64 x.2.1))], 51⟩) (fun x => 0 ≤ x.1 ∧ x.1 ≤ p.length ∧ x.2.1 = selTo (offB t bs p port) x.1.toNat ∧ x.2.2 = mvB t bs p port x.1.toNat) (fun x => (p.length - x.1).toNat) (0, [], false) ?_ ?_ ?_
    · (try simp only [hnt, hnp]); rfl
    · exact ⟨by omega, by omega, rfl, rfl⟩
    rintro ⟨i, out, mv⟩ ⟨hi0, hi1, hO, hM⟩
    dsimp only at hi0 hi1 hO hM ⊢
    have hok := planB_ok hc4.1
    have hle := hok.le
    have htt := hv_t hok.ship
    have hfind := @PlanOK.find b r t bs p hok i.toNat
    have hol : out.length ≤ 36 := by rw [hO]; have := selTo_len (offB t bs p port) i.toNat; omega
    have hin := mv_in (bs := bs) (p := p) (port := port) htt.2.2.2.2.1 hi0
    rw [← hM] at hin
    have hout := mv_out (t := t) (bs := bs) (p := p) (port := port) hi0
    rw [← hin] at hout
    have hoff := off_eq (t := t) (bs := bs) (p := p) (port := port) hi0
    rw [← hin] at hoff
    refine W_seq (fun K11 hK11 => ?_)
    refine W_region hT hG [] [1, 3, 4, 9, 10, 23, 24, 25, 26] ?_
    rw [hnt]
    simp only [baseS, eq_self, implies_true, if_true, if_false, reduceIte, Nat.reduceBEq, Nat.reduceEqDiff, Nat.reduceLT, Nat.reduceAdd, reduceCtorEq, tyInt, tdInt, tyHull, tdHull, tyBoxes, tdBoxes, tyInts, tdInts, c_impl_PlanValid, c_impl_within, c_impl_Hull_tier, c_impl_portAt, decide_false, room, Nat.reduceLeDiff, Nat.zero_le, storeAV, rowQ, ownInts, FT.of, FT.setf, elems, appAV_I, appI, srcI, ownI, anyI, sameR, appAV_P, appP, srcP, ownP, anyP]
    repeat (refine And.intro ?_ ?_; focus (first | exact ordP (by kernel_rfl) | with_reducible exact rfl | assumption | trivial | (simp only [inR]; omega) | omega | exact ⟨by omega, by omega⟩ | exact ⟨by omega, by omega, by omega⟩ | exact ⟨by omega, ⟨by omega, by omega⟩, by assumption⟩ | exact ⟨by omega, by assumption⟩ | exact hfindj (by omega) | exact hfind (by omega) | exact ⟨by omega, hfind (by omega)⟩ | ((try simp only [decide_eq_true_eq, Bool.and_eq_true, ne_eq, decide_not, Bool.not_eq_true', Bool.not_eq_false', Bool.or_eq_false_iff, Bool.not_not, decide_eq_false_iff_not]); (try intro hh); (repeat' apply And.intro) <;> (first | omega | (simp only [inR]; omega) | assumption | exact ⟨by omega, ⟨by omega, by omega⟩, by assumption⟩ | exact ⟨by omega, by assumption⟩ | exact hfindj (by omega) | exact hfind (by omega) | exact ⟨by omega, hfind (by omega)⟩ | exact hh.1 | exact hh.2 | exact hh.2.1 | exact hh.2.2 | exact hh.1.1 | exact hh.1.2 | (intro hq; exact ⟨hh, hq⟩) | (intro hq; exact ⟨hh.1, hq⟩) | (simp_all; done)))))
    refine hK11 _ ?_
    clear hK11
    refine W_seq (fun K12 hK12 => ?_)
    refine W_cond (b := _) rfl (fun hc13 => ?_) (fun hc13 => ?_)
    · try simp only [decide_eq_true_eq, decide_eq_false_iff_not, ne_eq, Decidable.not_not, Bool.not_eq_true', Bool.not_eq_false', Bool.or_eq_true, Bool.and_eq_true, Bool.or_eq_false_iff, Bool.and_eq_false_iff] at hc13
      refine W_skip ?_
      simp only [thenQ, blockQ, loopQ, reduceIte, Nat.reduceEqDiff]
      refine hK12 _ ?_
      clear hK12
      refine W_seq (fun K14 hK14 => ?_)
      refine W_block ?_
      refine W_seq (fun K15 hK15 => ?_)
      refine W_region hT hG [] [1, 3, 4, 9, 10, 11, 12, 23, 24, 25] ?_
      rw [hnt]
      simp only [baseS, eq_self, implies_true, if_true, if_false, reduceIte, Nat.reduceBEq, Nat.reduceEqDiff, Nat.reduceLT, Nat.reduceAdd, reduceCtorEq, tyInt, tdInt, tyHull, tdHull, tyBoxes, tdBoxes, tyInts, tdInts, c_impl_PlanValid, c_impl_within, c_impl_Hull_tier, c_impl_portAt, decide_false, room, Nat.reduceLeDiff, Nat.zero_le, storeAV, rowQ, ownInts, FT.of, FT.setf, elems, appAV_I, appI, srcI, ownI, anyI, sameR, appAV_P, appP, srcP, ownP, anyP]
      repeat (refine And.intro ?_ ?_; focus (first | exact ordP (by kernel_rfl) | with_reducible exact rfl | assumption | trivial | (simp only [inR]; omega) | omega | exact ⟨by omega, by omega⟩ | exact ⟨by omega, by omega, by omega⟩ | exact ⟨by omega, ⟨by omega, by omega⟩, by assumption⟩ | exact ⟨by omega, by assumption⟩ | exact hfindj (by omega) | exact hfind (by omega) | exact ⟨by omega, hfind (by omega)⟩ | ((try simp only [decide_eq_true_eq, Bool.and_eq_true, ne_eq, decide_not, Bool.not_eq_true', Bool.not_eq_false', Bool.or_eq_false_iff, Bool.not_not, decide_eq_false_iff_not]); (try intro hh); (repeat' apply And.intro) <;> (first | omega | (simp only [inR]; omega) | assumption | exact ⟨by omega, ⟨by omega, by omega⟩, by assumption⟩ | exact ⟨by omega, by assumption⟩ | exact hfindj (by omega) | exact hfind (by omega) | exact ⟨by omega, hfind (by omega)⟩ | exact hh.1 | exact hh.2 | exact hh.2.1 | exact hh.2.2 | exact hh.1.1 | exact hh.1.2 | (intro hq; exact ⟨hh, hq⟩) | (intro hq; exact ⟨hh.1, hq⟩) | (simp_all; done)))))
      refine hK15 _ ?_
      clear hK15
      refine W_seq (fun K16 hK16 => ?_)
      refine W_seq (fun K17 hK17 => ?_)
      refine W_region hT hG [] [1, 3, 4, 9, 10, 11, 12, 23, 24, 25, 33] ?_
      rw [hnt]
      simp only [baseS, eq_self, implies_true, if_true, if_false, reduceIte, Nat.reduceBEq, Nat.reduceEqDiff, Nat.reduceLT, Nat.reduceAdd, reduceCtorEq, tyInt, tdInt, tyHull, tdHull, tyBoxes, tdBoxes, tyInts, tdInts, c_impl_PlanValid, c_impl_within, c_impl_Hull_tier, c_impl_portAt, decide_false, room, Nat.reduceLeDiff, Nat.zero_le, storeAV, rowQ, ownInts, FT.of, FT.setf, elems, appAV_I, appI, srcI, ownI, anyI, sameR, appAV_P, appP, srcP, ownP, anyP]
      repeat (refine And.intro ?_ ?_; focus (first | exact ordP (by kernel_rfl) | with_reducible exact rfl | assumption | trivial | (simp only [inR]; omega) | omega | exact ⟨by omega, by omega⟩ | exact ⟨by omega, by omega, by omega⟩ | exact ⟨by omega, ⟨by omega, by omega⟩, by assumption⟩ | exact ⟨by omega, by assumption⟩ | exact hfindj (by omega) | exact hfind (by omega) | exact ⟨by omega, hfind (by omega)⟩ | ((try simp only [decide_eq_true_eq, Bool.and_eq_true, ne_eq, decide_not, Bool.not_eq_true', Bool.not_eq_false', Bool.or_eq_false_iff, Bool.not_not, decide_eq_false_iff_not]); (try intro hh); (repeat' apply And.intro) <;> (first | omega | (simp only [inR]; omega) | assumption | exact ⟨by omega, ⟨by omega, by omega⟩, by assumption⟩ | exact ⟨by omega, by assumption⟩ | exact hfindj (by omega) | exact hfind (by omega) | exact ⟨by omega, hfind (by omega)⟩ | exact hh.1 | exact hh.2 | exact hh.2.1 | exact hh.2.2 | exact hh.1.1 | exact hh.1.2 | (intro hq; exact ⟨hh, hq⟩) | (intro hq; exact ⟨hh.1, hq⟩) | (simp_all; done)))))
      refine hK17 _ ?_
      clear hK17
      refine W_cond (b := _) rfl (fun hc18 => ?_) (fun hc18 => ?_)
      · try simp only [decide_eq_true_eq, decide_eq_false_iff_not, ne_eq, Decidable.not_not, Bool.not_eq_true', Bool.not_eq_false', Bool.or_eq_true, Bool.and_eq_true, Bool.or_eq_false_iff, Bool.and_eq_false_iff] at hc18
        refine W_region hT hG [] [1, 3, 4, 9, 10, 11, 12, 23, 24, 25] ?_
        rw [hnt]
        simp only [baseS, eq_self, implies_true, if_true, if_false, reduceIte, Nat.reduceBEq, Nat.reduceEqDiff, Nat.reduceLT, Nat.reduceAdd, reduceCtorEq, tyInt, tdInt, tyHull, tdHull, tyBoxes, tdBoxes, tyInts, tdInts, c_impl_PlanValid, c_impl_within, c_impl_Hull_tier, c_impl_portAt, decide_false, room, Nat.reduceLeDiff, Nat.zero_le, storeAV, rowQ, ownInts, FT.of, FT.setf, elems, appAV_I, appI, srcI, ownI, anyI, sameR, appAV_P, appP, srcP, ownP, anyP]
        repeat (refine And.intro ?_ ?_; focus (first | exact ordP (by kernel_rfl) | with_reducible exact rfl | assumption | trivial | (simp only [inR]; omega) | omega | exact ⟨by omega, by omega⟩ | exact ⟨by omega, by omega, by omega⟩ | exact ⟨by omega, ⟨by omega, by omega⟩, by assumption⟩ | exact ⟨by omega, by assumption⟩ | exact hfindj (by omega) | exact hfind (by omega) | exact ⟨by omega, hfind (by omega)⟩ | ((try simp only [decide_eq_true_eq, Bool.and_eq_true, ne_eq, decide_not, Bool.not_eq_true', Bool.not_eq_false', Bool.or_eq_false_iff, Bool.not_not, decide_eq_false_iff_not]); (try intro hh); (repeat' apply And.intro) <;> (first | omega | (simp only [inR]; omega) | assumption | exact ⟨by omega, ⟨by omega, by omega⟩, by assumption⟩ | exact ⟨by omega, by assumption⟩ | exact hfindj (by omega) | exact hfind (by omega) | exact ⟨by omega, hfind (by omega)⟩ | exact hh.1 | exact hh.2 | exact hh.2.1 | exact hh.2.2 | exact hh.1.1 | exact hh.1.2 | (intro hq; exact ⟨hh, hq⟩) | (intro hq; exact ⟨hh.1, hq⟩) | (simp_all; done)))))
        refine hK16 _ ?_
        clear hK16
        refine W_seq (fun K19 hK19 => ?_)
        refine W_seq (fun K20 hK20 => ?_)
        refine W_region hT hG [] [1, 3, 4, 9, 10, 11, 12, 23, 24, 25, 35] ?_
        rw [hnt]
        simp only [baseS, eq_self, implies_true, if_true, if_false, reduceIte, Nat.reduceBEq, Nat.reduceEqDiff, Nat.reduceLT, Nat.reduceAdd, reduceCtorEq, tyInt, tdInt, tyHull, tdHull, tyBoxes, tdBoxes, tyInts, tdInts, c_impl_PlanValid, c_impl_within, c_impl_Hull_tier, c_impl_portAt, decide_false, room, Nat.reduceLeDiff, Nat.zero_le, storeAV, rowQ, ownInts, FT.of, FT.setf, elems, appAV_I, appI, srcI, ownI, anyI, sameR, appAV_P, appP, srcP, ownP, anyP]
        repeat (refine And.intro ?_ ?_; focus (first | exact ordP (by kernel_rfl) | with_reducible exact rfl | assumption | trivial | (simp only [inR]; omega) | omega | exact ⟨by omega, by omega⟩ | exact ⟨by omega, by omega, by omega⟩ | exact ⟨by omega, ⟨by omega, by omega⟩, by assumption⟩ | exact ⟨by omega, by assumption⟩ | exact hfindj (by omega) | exact hfind (by omega) | exact ⟨by omega, hfind (by omega)⟩ | ((try simp only [decide_eq_true_eq, Bool.and_eq_true, ne_eq, decide_not, Bool.not_eq_true', Bool.not_eq_false', Bool.or_eq_false_iff, Bool.not_not, decide_eq_false_iff_not]); (try intro hh); (repeat' apply And.intro) <;> (first | omega | (simp only [inR]; omega) | assumption | exact ⟨by omega, ⟨by omega, by omega⟩, by assumption⟩ | exact ⟨by omega, by assumption⟩ | exact hfindj (by omega) | exact hfind (by omega) | exact ⟨by omega, hfind (by omega)⟩ | exact hh.1 | exact hh.2 | exact hh.2.1 | exact hh.2.2 | exact hh.1.1 | exact hh.1.2 | (intro hq; exact ⟨hh, hq⟩) | (intro hq; exact ⟨hh.1, hq⟩) | (simp_all; done)))))
        refine hK20 _ ?_
        clear hK20
        refine W_cond (b := _) rfl (fun hc21 => ?_) (fun hc21 => ?_)
        · try simp only [decide_eq_true_eq, decide_eq_false_iff_not, ne_eq, Decidable.not_not, Bool.not_eq_true', Bool.not_eq_false', Bool.or_eq_true, Bool.and_eq_true, Bool.or_eq_false_iff, Bool.and_eq_false_iff] at hc21
          refine W_exit ?_
          simp only [thenQ, blockQ, loopQ, reduceIte, Nat.reduceEqDiff]
          refine hK14 _ ?_
          clear hK14
          refine W_region hT hG [] [1, 3, 4, 9, 10, 23, 24, 25] ?_
          rw [hnt]
          simp only [baseS, eq_self, implies_true, if_true, if_false, reduceIte, Nat.reduceBEq, Nat.reduceEqDiff, Nat.reduceLT, Nat.reduceAdd, reduceCtorEq, tyInt, tdInt, tyHull, tdHull, tyBoxes, tdBoxes, tyInts, tdInts, c_impl_PlanValid, c_impl_within, c_impl_Hull_tier, c_impl_portAt, decide_false, room, Nat.reduceLeDiff, Nat.zero_le, storeAV, rowQ, ownInts, FT.of, FT.setf, elems, appAV_I, appI, srcI, ownI, anyI, sameR, appAV_P, appP, srcP, ownP, anyP]
          repeat (refine And.intro ?_ ?_; focus (first | exact ordP (by kernel_rfl) | with_reducible exact rfl | assumption | trivial | (simp only [inR]; omega) | omega | exact ⟨by omega, by omega⟩ | exact ⟨by omega, by omega, by omega⟩ | exact ⟨by omega, ⟨by omega, by omega⟩, by assumption⟩ | exact ⟨by omega, by assumption⟩ | exact hfindj (by omega) | exact hfind (by omega) | exact ⟨by omega, hfind (by omega)⟩ | ((try simp only [decide_eq_true_eq, Bool.and_eq_true, ne_eq, decide_not, Bool.not_eq_true', Bool.not_eq_false', Bool.or_eq_false_iff, Bool.not_not, decide_eq_false_iff_not]); (try intro hh); (repeat' apply And.intro) <;> (first | omega | (simp only [inR]; omega) | assumption | exact ⟨by omega, ⟨by omega, by omega⟩, by assumption⟩ | exact ⟨by omega, by assumption⟩ | exact hfindj (by omega) | exact hfind (by omega) | exact ⟨by omega, hfind (by omega)⟩ | exact hh.1 | exact hh.2 | exact hh.2.1 | exact hh.2.2 | exact hh.1.1 | exact hh.1.2 | (intro hq; exact ⟨hh, hq⟩) | (intro hq; exact ⟨hh.1, hq⟩) | (simp_all; done)))))
          first
          | (refine ⟨(i + 1, out, _), (by (try simp only [hnt, hnp]); rfl), ⟨by dsimp only; omega, by dsimp only; omega, ?_, ?_⟩, by dsimp only; omega⟩; (dsimp only; rw [selTo_no hi0 (by rw [hoff, decide_eq_false (fun hn => hn hc21), Bool.false_and]), hO]); (dsimp only; rw [hout, decide_eq_false (fun hn => hn hc21), Bool.false_and, Bool.or_false, if_pos hc18]))
          | (refine ⟨(i + 1, out, _), (by (try simp only [hnt, hnp]); rfl), ⟨by dsimp only; omega, by dsimp only; omega, ?_, ?_⟩, by dsimp only; omega⟩; (dsimp only; rw [selTo_no hi0 (by rw [hoff, decide_eq_false (fun hn => hn hc21), Bool.false_and]), hO]); (dsimp only; rw [hout, decide_eq_false (fun hn => hn hc21), Bool.false_and, Bool.or_false, if_neg hc18]))
          | (refine ⟨(i + 1, out ++ [i], _), (by (try simp only [hnt, hnp]); rfl), ⟨by dsimp only; omega, by dsimp only; omega, ?_, ?_⟩, by dsimp only; omega⟩; (dsimp only; rw [selTo_yes hi0 (by rw [hoff, decide_eq_true hc18, Bool.true_and, if_pos hc13, Bool.false_or]; simp only [Bool.or_eq_true, decide_eq_true_eq]; exact hc21), hO]); (dsimp only; rw [hout, decide_eq_true hc18, Bool.true_and, if_pos hc13, Bool.false_or]))
          | (refine ⟨(i + 1, out, _), (by (try simp only [hnt, hnp]); rfl), ⟨by dsimp only; omega, by dsimp only; omega, ?_, ?_⟩, by dsimp only; omega⟩; (dsimp only; rw [selTo_no hi0 (by rw [hoff, decide_eq_true hc18, Bool.true_and, if_pos hc13, Bool.false_or]; simp only [Bool.or_eq_false_iff, decide_eq_false_iff_not]; exact hc21), hO]); (dsimp only; rw [hout, decide_eq_true hc18, Bool.true_and, if_pos hc13, Bool.false_or]))
          | (refine ⟨(i + 1, out ++ [i], _), (by (try simp only [hnt, hnp]); rfl), ⟨by dsimp only; omega, by dsimp only; omega, ?_, ?_⟩, by dsimp only; omega⟩; (dsimp only; rw [selTo_yes hi0 (by rw [hoff, decide_eq_true hc18, Bool.true_and, if_neg hc13]; simp only [Bool.or_eq_true, decide_eq_true_eq]; exact hc21), hO]); (dsimp only; rw [hout, decide_eq_true hc18, Bool.true_and, if_neg hc13]))
          | (refine ⟨(i + 1, out, _), (by (try simp only [hnt, hnp]); rfl), ⟨by dsimp only; omega, by dsimp only; omega, ?_, ?_⟩, by dsimp only; omega⟩; (dsimp only; rw [selTo_no hi0 (by rw [hoff, decide_eq_true hc18, Bool.true_and, if_neg hc13]; simp only [Bool.or_eq_false_iff, decide_eq_false_iff_not]; exact hc21), hO]); (dsimp only; rw [hout, decide_eq_true hc18, Bool.true_and, if_neg hc13]))
        · try simp only [decide_eq_true_eq, decide_eq_false_iff_not, ne_eq, Decidable.not_not, Bool.not_eq_true', Bool.not_eq_false', Bool.or_eq_true, Bool.and_eq_true, Bool.or_eq_false_iff, Bool.and_eq_false_iff] at hc21
          refine W_skip ?_
          simp only [thenQ, blockQ, loopQ, reduceIte, Nat.reduceEqDiff]
          refine hK19 _ ?_
          clear hK19
          refine W_seq (fun K22 hK22 => ?_)
          refine W_region hT hG [] [1, 3, 4, 9, 10, 11, 23, 24, 25] ?_
          rw [hnt]
          simp only [baseS, eq_self, implies_true, if_true, if_false, reduceIte, Nat.reduceBEq, Nat.reduceEqDiff, Nat.reduceLT, Nat.reduceAdd, reduceCtorEq, tyInt, tdInt, tyHull, tdHull, tyBoxes, tdBoxes, tyInts, tdInts, c_impl_PlanValid, c_impl_within, c_impl_Hull_tier, c_impl_portAt, decide_false, room, Nat.reduceLeDiff, Nat.zero_le, storeAV, rowQ, ownInts, FT.of, FT.setf, elems, appAV_I, appI, srcI, ownI, anyI, sameR, appAV_P, appP, srcP, ownP, anyP]
          repeat (refine And.intro ?_ ?_; focus (first | exact ordP (by kernel_rfl) | with_reducible exact rfl | assumption | trivial | (simp only [inR]; omega) | omega | exact ⟨by omega, by omega⟩ | exact ⟨by omega, by omega, by omega⟩ | exact ⟨by omega, ⟨by omega, by omega⟩, by assumption⟩ | exact ⟨by omega, by assumption⟩ | exact hfindj (by omega) | exact hfind (by omega) | exact ⟨by omega, hfind (by omega)⟩ | ((try simp only [decide_eq_true_eq, Bool.and_eq_true, ne_eq, decide_not, Bool.not_eq_true', Bool.not_eq_false', Bool.or_eq_false_iff, Bool.not_not, decide_eq_false_iff_not]); (try intro hh); (repeat' apply And.intro) <;> (first | omega | (simp only [inR]; omega) | assumption | exact ⟨by omega, ⟨by omega, by omega⟩, by assumption⟩ | exact ⟨by omega, by assumption⟩ | exact hfindj (by omega) | exact hfind (by omega) | exact ⟨by omega, hfind (by omega)⟩ | exact hh.1 | exact hh.2 | exact hh.2.1 | exact hh.2.2 | exact hh.1.1 | exact hh.1.2 | (intro hq; exact ⟨hh, hq⟩) | (intro hq; exact ⟨hh.1, hq⟩) | (simp_all; done)))))
          refine hK22 _ ?_
          clear hK22
          refine W_seq (fun K23 hK23 => ?_)
          refine W_region hT hG [] [1, 3, 4, 9, 10, 11, 23, 24, 25, 44] ?_
          rw [hnt]
          simp only [baseS, eq_self, implies_true, if_true, if_false, reduceIte, Nat.reduceBEq, Nat.reduceEqDiff, Nat.reduceLT, Nat.reduceAdd, reduceCtorEq, tyInt, tdInt, tyHull, tdHull, tyBoxes, tdBoxes, tyInts, tdInts, c_impl_PlanValid, c_impl_within, c_impl_Hull_tier, c_impl_portAt, decide_false, room, Nat.reduceLeDiff, Nat.zero_le, storeAV, rowQ, ownInts, FT.of, FT.setf, elems, appAV_I, appI, srcI, ownI, anyI, sameR, appAV_P, appP, srcP, ownP, anyP]
          repeat (refine And.intro ?_ ?_; focus (first | exact ordP (by kernel_rfl) | with_reducible exact rfl | assumption | trivial | (simp only [inR]; omega) | omega | exact ⟨by omega, by omega⟩ | exact ⟨by omega, by omega, by omega⟩ | exact ⟨by omega, ⟨by omega, by omega⟩, by assumption⟩ | exact ⟨by omega, by assumption⟩ | exact hfindj (by omega) | exact hfind (by omega) | exact ⟨by omega, hfind (by omega)⟩ | ((try simp only [decide_eq_true_eq, Bool.and_eq_true, ne_eq, decide_not, Bool.not_eq_true', Bool.not_eq_false', Bool.or_eq_false_iff, Bool.not_not, decide_eq_false_iff_not]); (try intro hh); (repeat' apply And.intro) <;> (first | omega | (simp only [inR]; omega) | assumption | exact ⟨by omega, ⟨by omega, by omega⟩, by assumption⟩ | exact ⟨by omega, by assumption⟩ | exact hfindj (by omega) | exact hfind (by omega) | exact ⟨by omega, hfind (by omega)⟩ | exact hh.1 | exact hh.2 | exact hh.2.1 | exact hh.2.2 | exact hh.1.1 | exact hh.1.2 | (intro hq; exact ⟨hh, hq⟩) | (intro hq; exact ⟨hh.1, hq⟩) | (simp_all; done)))))
          refine hK23 _ ?_
          clear hK23
          refine W_cond (b := _) rfl (fun hc24 => ?_) (fun hc24 => ?_)
          · try simp only [decide_eq_true_eq, decide_eq_false_iff_not, ne_eq, Decidable.not_not, Bool.not_eq_true', Bool.not_eq_false', Bool.or_eq_true, Bool.and_eq_true, Bool.or_eq_false_iff, Bool.and_eq_false_iff] at hc24
            refine W_region hT hG [] [1, 3, 4, 9, 10, 23, 24, 25] ?_
            rw [hnt]
            simp only [baseS, eq_self, implies_true, if_true, if_false, reduceIte, Nat.reduceBEq, Nat.reduceEqDiff, Nat.reduceLT, Nat.reduceAdd, reduceCtorEq, tyInt, tdInt, tyHull, tdHull, tyBoxes, tdBoxes, tyInts, tdInts, c_impl_PlanValid, c_impl_within, c_impl_Hull_tier, c_impl_portAt, decide_false, room, Nat.reduceLeDiff, Nat.zero_le, storeAV, rowQ, ownInts, FT.of, FT.setf, elems, appAV_I, appI, srcI, ownI, anyI, sameR, appAV_P, appP, srcP, ownP, anyP]
            repeat (refine And.intro ?_ ?_; focus (first | exact ordP (by kernel_rfl) | with_reducible exact rfl | assumption | trivial | (simp only [inR]; omega) | omega | exact ⟨by omega, by omega⟩ | exact ⟨by omega, by omega, by omega⟩ | exact ⟨by omega, ⟨by omega, by omega⟩, by assumption⟩ | exact ⟨by omega, by assumption⟩ | exact hfindj (by omega) | exact hfind (by omega) | exact ⟨by omega, hfind (by omega)⟩ | ((try simp only [decide_eq_true_eq, Bool.and_eq_true, ne_eq, decide_not, Bool.not_eq_true', Bool.not_eq_false', Bool.or_eq_false_iff, Bool.not_not, decide_eq_false_iff_not]); (try intro hh); (repeat' apply And.intro) <;> (first | omega | (simp only [inR]; omega) | assumption | exact ⟨by omega, ⟨by omega, by omega⟩, by assumption⟩ | exact ⟨by omega, by assumption⟩ | exact hfindj (by omega) | exact hfind (by omega) | exact ⟨by omega, hfind (by omega)⟩ | exact hh.1 | exact hh.2 | exact hh.2.1 | exact hh.2.2 | exact hh.1.1 | exact hh.1.2 | (intro hq; exact ⟨hh, hq⟩) | (intro hq; exact ⟨hh.1, hq⟩) | (simp_all; done)))))
            refine hK14 _ ?_
            clear hK14
            refine W_region hT hG [] [1, 3, 4, 9, 10, 23, 24, 25] ?_
            rw [hnt]
            simp only [baseS, eq_self, implies_true, if_true, if_false, reduceIte, Nat.reduceBEq, Nat.reduceEqDiff, Nat.reduceLT, Nat.reduceAdd, reduceCtorEq, tyInt, tdInt, tyHull, tdHull, tyBoxes, tdBoxes, tyInts, tdInts, c_impl_PlanValid, c_impl_within, c_impl_Hull_tier, c_impl_portAt, decide_false, room, Nat.reduceLeDiff, Nat.zero_le, storeAV, rowQ, ownInts, FT.of, FT.setf, elems, appAV_I, appI, srcI, ownI, anyI, sameR, appAV_P, appP, srcP, ownP, anyP]
            repeat (refine And.intro ?_ ?_; focus (first | exact ordP (by kernel_rfl) | with_reducible exact rfl | assumption | trivial | (simp only [inR]; omega) | omega | exact ⟨by omega, by omega⟩ | exact ⟨by omega, by omega, by omega⟩ | exact ⟨by omega, ⟨by omega, by omega⟩, by assumption⟩ | exact ⟨by omega, by assumption⟩ | exact hfindj (by omega) | exact hfind (by omega) | exact ⟨by omega, hfind (by omega)⟩ | ((try simp only [decide_eq_true_eq, Bool.and_eq_true, ne_eq, decide_not, Bool.not_eq_true', Bool.not_eq_false', Bool.or_eq_false_iff, Bool.not_not, decide_eq_false_iff_not]); (try intro hh); (repeat' apply And.intro) <;> (first | omega | (simp only [inR]; omega) | assumption | exact ⟨by omega, ⟨by omega, by omega⟩, by assumption⟩ | exact ⟨by omega, by assumption⟩ | exact hfindj (by omega) | exact hfind (by omega) | exact ⟨by omega, hfind (by omega)⟩ | exact hh.1 | exact hh.2 | exact hh.2.1 | exact hh.2.2 | exact hh.1.1 | exact hh.1.2 | (intro hq; exact ⟨hh, hq⟩) | (intro hq; exact ⟨hh.1, hq⟩) | (simp_all; done)))))
            first
            | (refine ⟨(i + 1, out, _), (by (try simp only [hnt, hnp]); rfl), ⟨by dsimp only; omega, by dsimp only; omega, ?_, ?_⟩, by dsimp only; omega⟩; (dsimp only; rw [selTo_no hi0 (by rw [hoff, decide_eq_false (fun hn => hn hc24), Bool.false_and]), hO]); (dsimp only; rw [hout, decide_eq_false (fun hn => hn hc24), Bool.false_and, Bool.or_false, if_pos hc21]))
            | (refine ⟨(i + 1, out, _), (by (try simp only [hnt, hnp]); rfl), ⟨by dsimp only; omega, by dsimp only; omega, ?_, ?_⟩, by dsimp only; omega⟩; (dsimp only; rw [selTo_no hi0 (by rw [hoff, decide_eq_false (fun hn => hn hc24), Bool.false_and]), hO]); (dsimp only; rw [hout, decide_eq_false (fun hn => hn hc24), Bool.false_and, Bool.or_false, if_neg hc21]))
            | (refine ⟨(i + 1, out ++ [i], _), (by (try simp only [hnt, hnp]); rfl), ⟨by dsimp only; omega, by dsimp only; omega, ?_, ?_⟩, by dsimp only; omega⟩; (dsimp only; rw [selTo_yes hi0 (by rw [hoff, decide_eq_true hc21, Bool.true_and, if_pos hc18, Bool.false_or]; simp only [Bool.or_eq_true, decide_eq_true_eq]; exact hc24), hO]); (dsimp only; rw [hout, decide_eq_true hc21, Bool.true_and, if_pos hc18, Bool.false_or]))
            | (refine ⟨(i + 1, out, _), (by (try simp only [hnt, hnp]); rfl), ⟨by dsimp only; omega, by dsimp only; omega, ?_, ?_⟩, by dsimp only; omega⟩; (dsimp only; rw [selTo_no hi0 (by rw [hoff, decide_eq_true hc21, Bool.true_and, if_pos hc18, Bool.false_or]; simp only [Bool.or_eq_false_iff, decide_eq_false_iff_not]; exact hc24), hO]); (dsimp only; rw [hout, decide_eq_true hc21, Bool.true_and, if_pos hc18, Bool.false_or]))
            | (refine ⟨(i + 1, out ++ [i], _), (by (try simp only [hnt, hnp]); rfl), ⟨by dsimp only; omega, by dsimp only; omega, ?_, ?_⟩, by dsimp only; omega⟩; (dsimp only; rw [selTo_yes hi0 (by rw [hoff, decide_eq_true hc21, Bool.true_and, if_neg hc18]; simp only [Bool.or_eq_true, decide_eq_true_eq]; exact hc24), hO]); (dsimp only; rw [hout, decide_eq_true hc21, Bool.true_and, if_neg hc18]))
            | (refine ⟨(i + 1, out, _), (by (try simp only [hnt, hnp]); rfl), ⟨by dsimp only; omega, by dsimp only; omega, ?_, ?_⟩, by dsimp only; omega⟩; (dsimp only; rw [selTo_no hi0 (by rw [hoff, decide_eq_true hc21, Bool.true_and, if_neg hc18]; simp only [Bool.or_eq_false_iff, decide_eq_false_iff_not]; exact hc24), hO]); (dsimp only; rw [hout, decide_eq_true hc21, Bool.true_and, if_neg hc18]))
          · try simp only [decide_eq_true_eq, decide_eq_false_iff_not, ne_eq, Decidable.not_not, Bool.not_eq_true', Bool.not_eq_false', Bool.or_eq_true, Bool.and_eq_true, Bool.or_eq_false_iff, Bool.and_eq_false_iff] at hc24
            refine W_skip ?_
            simp only [thenQ, blockQ, loopQ, reduceIte, Nat.reduceEqDiff]
            refine hK14 _ ?_
            clear hK14
            refine W_region hT hG [] [1, 3, 4, 9, 10, 23, 24, 25] ?_
            rw [hnt]
            simp only [baseS, eq_self, implies_true, if_true, if_false, reduceIte, Nat.reduceBEq, Nat.reduceEqDiff, Nat.reduceLT, Nat.reduceAdd, reduceCtorEq, tyInt, tdInt, tyHull, tdHull, tyBoxes, tdBoxes, tyInts, tdInts, c_impl_PlanValid, c_impl_within, c_impl_Hull_tier, c_impl_portAt, decide_false, room, Nat.reduceLeDiff, Nat.zero_le, storeAV, rowQ, ownInts, FT.of, FT.setf, elems, appAV_I, appI, srcI, ownI, anyI, sameR, appAV_P, appP, srcP, ownP, anyP]
            repeat (refine And.intro ?_ ?_; focus (first | exact ordP (by kernel_rfl) | with_reducible exact rfl | assumption | trivial | (simp only [inR]; omega) | omega | exact ⟨by omega, by omega⟩ | exact ⟨by omega, by omega, by omega⟩ | exact ⟨by omega, ⟨by omega, by omega⟩, by assumption⟩ | exact ⟨by omega, by assumption⟩ | exact hfindj (by omega) | exact hfind (by omega) | exact ⟨by omega, hfind (by omega)⟩ | ((try simp only [decide_eq_true_eq, Bool.and_eq_true, ne_eq, decide_not, Bool.not_eq_true', Bool.not_eq_false', Bool.or_eq_false_iff, Bool.not_not, decide_eq_false_iff_not]); (try intro hh); (repeat' apply And.intro) <;> (first | omega | (simp only [inR]; omega) | assumption | exact ⟨by omega, ⟨by omega, by omega⟩, by assumption⟩ | exact ⟨by omega, by assumption⟩ | exact hfindj (by omega) | exact hfind (by omega) | exact ⟨by omega, hfind (by omega)⟩ | exact hh.1 | exact hh.2 | exact hh.2.1 | exact hh.2.2 | exact hh.1.1 | exact hh.1.2 | (intro hq; exact ⟨hh, hq⟩) | (intro hq; exact ⟨hh.1, hq⟩) | (simp_all; done)))))
            first
            | (refine ⟨(i + 1, out, _), (by (try simp only [hnt, hnp]); rfl), ⟨by dsimp only; omega, by dsimp only; omega, ?_, ?_⟩, by dsimp only; omega⟩; (dsimp only; rw [selTo_no hi0 (by rw [hoff, decide_eq_false (fun hn => hn hc24), Bool.false_and]), hO]); (dsimp only; rw [hout, decide_eq_false (fun hn => hn hc24), Bool.false_and, Bool.or_false, if_pos hc21]))
            | (refine ⟨(i + 1, out, _), (by (try simp only [hnt, hnp]); rfl), ⟨by dsimp only; omega, by dsimp only; omega, ?_, ?_⟩, by dsimp only; omega⟩; (dsimp only; rw [selTo_no hi0 (by rw [hoff, decide_eq_false (fun hn => hn hc24), Bool.false_and]), hO]); (dsimp only; rw [hout, decide_eq_false (fun hn => hn hc24), Bool.false_and, Bool.or_false, if_neg hc21]))
            | (refine ⟨(i + 1, out ++ [i], _), (by (try simp only [hnt, hnp]); rfl), ⟨by dsimp only; omega, by dsimp only; omega, ?_, ?_⟩, by dsimp only; omega⟩; (dsimp only; rw [selTo_yes hi0 (by rw [hoff, decide_eq_true hc21, Bool.true_and, if_pos hc18, Bool.false_or]; simp only [Bool.or_eq_true, decide_eq_true_eq]; exact hc24), hO]); (dsimp only; rw [hout, decide_eq_true hc21, Bool.true_and, if_pos hc18, Bool.false_or]))
            | (refine ⟨(i + 1, out, _), (by (try simp only [hnt, hnp]); rfl), ⟨by dsimp only; omega, by dsimp only; omega, ?_, ?_⟩, by dsimp only; omega⟩; (dsimp only; rw [selTo_no hi0 (by rw [hoff, decide_eq_true hc21, Bool.true_and, if_pos hc18, Bool.false_or]; simp only [Bool.or_eq_false_iff, decide_eq_false_iff_not]; exact hc24), hO]); (dsimp only; rw [hout, decide_eq_true hc21, Bool.true_and, if_pos hc18, Bool.false_or]))
            | (refine ⟨(i + 1, out ++ [i], _), (by (try simp only [hnt, hnp]); rfl), ⟨by dsimp only; omega, by dsimp only; omega, ?_, ?_⟩, by dsimp only; omega⟩; (dsimp only; rw [selTo_yes hi0 (by rw [hoff, decide_eq_true hc21, Bool.true_and, if_neg hc18]; simp only [Bool.or_eq_true, decide_eq_true_eq]; exact hc24), hO]); (dsimp only; rw [hout, decide_eq_true hc21, Bool.true_and, if_neg hc18]))
            | (refine ⟨(i + 1, out, _), (by (try simp only [hnt, hnp]); rfl), ⟨by dsimp only; omega, by dsimp only; omega, ?_, ?_⟩, by dsimp only; omega⟩; (dsimp only; rw [selTo_no hi0 (by rw [hoff, decide_eq_true hc21, Bool.true_and, if_neg hc18]; simp only [Bool.or_eq_false_iff, decide_eq_false_iff_not]; exact hc24), hO]); (dsimp only; rw [hout, decide_eq_true hc21, Bool.true_and, if_neg hc18]))
      · try simp only [decide_eq_true_eq, decide_eq_false_iff_not, ne_eq, Decidable.not_not, Bool.not_eq_true', Bool.not_eq_false', Bool.or_eq_true, Bool.and_eq_true, Bool.or_eq_false_iff, Bool.and_eq_false_iff] at hc18
        refine W_skip ?_
        simp only [thenQ, blockQ, loopQ, reduceIte, Nat.reduceEqDiff]
        refine hK16 _ ?_
        clear hK16
        refine W_seq (fun K25 hK25 => ?_)
        refine W_seq (fun K26 hK26 => ?_)
        refine W_region hT hG [] [1, 3, 4, 9, 10, 11, 12, 23, 24, 25, 35] ?_
        rw [hnt]
        simp only [baseS, eq_self, implies_true, if_true, if_false, reduceIte, Nat.reduceBEq, Nat.reduceEqDiff, Nat.reduceLT, Nat.reduceAdd, reduceCtorEq, tyInt, tdInt, tyHull, tdHull, tyBoxes, tdBoxes, tyInts, tdInts, c_impl_PlanValid, c_impl_within, c_impl_Hull_tier, c_impl_portAt, decide_false, room, Nat.reduceLeDiff, Nat.zero_le, storeAV, rowQ, ownInts, FT.of, FT.setf, elems, appAV_I, appI, srcI, ownI, anyI, sameR, appAV_P, appP, srcP, ownP, anyP]
        repeat (refine And.intro ?_ ?_; focus (first | exact ordP (by kernel_rfl) | with_reducible exact rfl | assumption | trivial | (simp only [inR]; omega) | omega | exact ⟨by omega, by omega⟩ | exact ⟨by omega, by omega, by omega⟩ | exact ⟨by omega, ⟨by omega, by omega⟩, by assumption⟩ | exact ⟨by omega, by assumption⟩ | exact hfindj (by omega) | exact hfind (by omega) | exact ⟨by omega, hfind (by omega)⟩ | ((try simp only [decide_eq_true_eq, Bool.and_eq_true, ne_eq, decide_not, Bool.not_eq_true', Bool.not_eq_false', Bool.or_eq_false_iff, Bool.not_not, decide_eq_false_iff_not]); (try intro hh); (repeat' apply And.intro) <;> (first | omega | (simp only [inR]; omega) | assumption | exact ⟨by omega, ⟨by omega, by omega⟩, by assumption⟩ | exact ⟨by omega, by assumption⟩ | exact hfindj (by omega) | exact hfind (by omega) | exact ⟨by omega, hfind (by omega)⟩ | exact hh.1 | exact hh.2 | exact hh.2.1 | exact hh.2.2 | exact hh.1.1 | exact hh.1.2 | (intro hq; exact ⟨hh, hq⟩) | (intro hq; exact ⟨hh.1, hq⟩) | (simp_all; done)))))
        refine hK26 _ ?_
        clear hK26
        refine W_cond (b := _) rfl (fun hc27 => ?_) (fun hc27 => ?_)
        · try simp only [decide_eq_true_eq, decide_eq_false_iff_not, ne_eq, Decidable.not_not, Bool.not_eq_true', Bool.not_eq_false', Bool.or_eq_true, Bool.and_eq_true, Bool.or_eq_false_iff, Bool.and_eq_false_iff] at hc27
          refine W_exit ?_
          simp only [thenQ, blockQ, loopQ, reduceIte, Nat.reduceEqDiff]
          refine hK14 _ ?_
          clear hK14
          refine W_region hT hG [] [1, 3, 4, 9, 10, 23, 24, 25] ?_
          rw [hnt]
          simp only [baseS, eq_self, implies_true, if_true, if_false, reduceIte, Nat.reduceBEq, Nat.reduceEqDiff, Nat.reduceLT, Nat.reduceAdd, reduceCtorEq, tyInt, tdInt, tyHull, tdHull, tyBoxes, tdBoxes, tyInts, tdInts, c_impl_PlanValid, c_impl_within, c_impl_Hull_tier, c_impl_portAt, decide_false, room, Nat.reduceLeDiff, Nat.zero_le, storeAV, rowQ, ownInts, FT.of, FT.setf, elems, appAV_I, appI, srcI, ownI, anyI, sameR, appAV_P, appP, srcP, ownP, anyP]
          repeat (refine And.intro ?_ ?_; focus (first | exact ordP (by kernel_rfl) | with_reducible exact rfl | assumption | trivial | (simp only [inR]; omega) | omega | exact ⟨by omega, by omega⟩ | exact ⟨by omega, by omega, by omega⟩ | exact ⟨by omega, ⟨by omega, by omega⟩, by assumption⟩ | exact ⟨by omega, by assumption⟩ | exact hfindj (by omega) | exact hfind (by omega) | exact ⟨by omega, hfind (by omega)⟩ | ((try simp only [decide_eq_true_eq, Bool.and_eq_true, ne_eq, decide_not, Bool.not_eq_true', Bool.not_eq_false', Bool.or_eq_false_iff, Bool.not_not, decide_eq_false_iff_not]); (try intro hh); (repeat' apply And.intro) <;> (first | omega | (simp only [inR]; omega) | assumption | exact ⟨by omega, ⟨by omega, by omega⟩, by assumption⟩ | exact ⟨by omega, by assumption⟩ | exact hfindj (by omega) | exact hfind (by omega) | exact ⟨by omega, hfind (by omega)⟩ | exact hh.1 | exact hh.2 | exact hh.2.1 | exact hh.2.2 | exact hh.1.1 | exact hh.1.2 | (intro hq; exact ⟨hh, hq⟩) | (intro hq; exact ⟨hh.1, hq⟩) | (simp_all; done)))))
          first
          | (refine ⟨(i + 1, out, _), (by (try simp only [hnt, hnp]); rfl), ⟨by dsimp only; omega, by dsimp only; omega, ?_, ?_⟩, by dsimp only; omega⟩; (dsimp only; rw [selTo_no hi0 (by rw [hoff, decide_eq_false (fun hn => hn hc27), Bool.false_and]), hO]); (dsimp only; rw [hout, decide_eq_false (fun hn => hn hc27), Bool.false_and, Bool.or_false, if_pos hc18]))
          | (refine ⟨(i + 1, out, _), (by (try simp only [hnt, hnp]); rfl), ⟨by dsimp only; omega, by dsimp only; omega, ?_, ?_⟩, by dsimp only; omega⟩; (dsimp only; rw [selTo_no hi0 (by rw [hoff, decide_eq_false (fun hn => hn hc27), Bool.false_and]), hO]); (dsimp only; rw [hout, decide_eq_false (fun hn => hn hc27), Bool.false_and, Bool.or_false, if_neg hc18]))
          | (refine ⟨(i + 1, out ++ [i], _), (by (try simp only [hnt, hnp]); rfl), ⟨by dsimp only; omega, by dsimp only; omega, ?_, ?_⟩, by dsimp only; omega⟩; (dsimp only; rw [selTo_yes hi0 (by rw [hoff, decide_eq_true hc18, Bool.true_and, if_pos hc13, Bool.false_or]; simp only [Bool.or_eq_true, decide_eq_true_eq]; exact hc27), hO]); (dsimp only; rw [hout, decide_eq_true hc18, Bool.true_and, if_pos hc13, Bool.false_or]))
          | (refine ⟨(i + 1, out, _), (by (try simp only [hnt, hnp]); rfl), ⟨by dsimp only; omega, by dsimp only; omega, ?_, ?_⟩, by dsimp only; omega⟩; (dsimp only; rw [selTo_no hi0 (by rw [hoff, decide_eq_true hc18, Bool.true_and, if_pos hc13, Bool.false_or]; simp only [Bool.or_eq_false_iff, decide_eq_false_iff_not]; exact hc27), hO]); (dsimp only; rw [hout, decide_eq_true hc18, Bool.true_and, if_pos hc13, Bool.false_or]))
          | (refine ⟨(i + 1, out ++ [i], _), (by (try simp only [hnt, hnp]); rfl), ⟨by dsimp only; omega, by dsimp only; omega, ?_, ?_⟩, by dsimp only; omega⟩; (dsimp only; rw [selTo_yes hi0 (by rw [hoff, decide_eq_true hc18, Bool.true_and, if_neg hc13]; simp only [Bool.or_eq_true, decide_eq_true_eq]; exact hc27), hO]); (dsimp only; rw [hout, decide_eq_true hc18, Bool.true_and, if_neg hc13]))
          | (refine ⟨(i + 1, out, _), (by (try simp only [hnt, hnp]); rfl), ⟨by dsimp only; omega, by dsimp only; omega, ?_, ?_⟩, by dsimp only; omega⟩; (dsimp only; rw [selTo_no hi0 (by rw [hoff, decide_eq_true hc18, Bool.true_and, if_neg hc13]; simp only [Bool.or_eq_false_iff, decide_eq_false_iff_not]; exact hc27), hO]); (dsimp only; rw [hout, decide_eq_true hc18, Bool.true_and, if_neg hc13]))
        · try simp only [decide_eq_true_eq, decide_eq_false_iff_not, ne_eq, Decidable.not_not, Bool.not_eq_true', Bool.not_eq_false', Bool.or_eq_true, Bool.and_eq_true, Bool.or_eq_false_iff, Bool.and_eq_false_iff] at hc27
          refine W_skip ?_
          simp only [thenQ, blockQ, loopQ, reduceIte, Nat.reduceEqDiff]
          refine hK25 _ ?_
          clear hK25
          refine W_seq (fun K28 hK28 => ?_)
          refine W_region hT hG [] [1, 3, 4, 9, 10, 11, 23, 24, 25] ?_
          rw [hnt]
          simp only [baseS, eq_self, implies_true, if_true, if_false, reduceIte, Nat.reduceBEq, Nat.reduceEqDiff, Nat.reduceLT, Nat.reduceAdd, reduceCtorEq, tyInt, tdInt, tyHull, tdHull, tyBoxes, tdBoxes, tyInts, tdInts, c_impl_PlanValid, c_impl_within, c_impl_Hull_tier, c_impl_portAt, decide_false, room, Nat.reduceLeDiff, Nat.zero_le, storeAV, rowQ, ownInts, FT.of, FT.setf, elems, appAV_I, appI, srcI, ownI, anyI, sameR, appAV_P, appP, srcP, ownP, anyP]
          repeat (refine And.intro ?_ ?_; focus (first | exact ordP (by kernel_rfl) | with_reducible exact rfl | assumption | trivial | (simp only [inR]; omega) | omega | exact ⟨by omega, by omega⟩ | exact ⟨by omega, by omega, by omega⟩ | exact ⟨by omega, ⟨by omega, by omega⟩, by assumption⟩ | exact ⟨by omega, by assumption⟩ | exact hfindj (by omega) | exact hfind (by omega) | exact ⟨by omega, hfind (by omega)⟩ | ((try simp only [decide_eq_true_eq, Bool.and_eq_true, ne_eq, decide_not, Bool.not_eq_true', Bool.not_eq_false', Bool.or_eq_false_iff, Bool.not_not, decide_eq_false_iff_not]); (try intro hh); (repeat' apply And.intro) <;> (first | omega | (simp only [inR]; omega) | assumption | exact ⟨by omega, ⟨by omega, by omega⟩, by assumption⟩ | exact ⟨by omega, by assumption⟩ | exact hfindj (by omega) | exact hfind (by omega) | exact ⟨by omega, hfind (by omega)⟩ | exact hh.1 | exact hh.2 | exact hh.2.1 | exact hh.2.2 | exact hh.1.1 | exact hh.1.2 | (intro hq; exact ⟨hh, hq⟩) | (intro hq; exact ⟨hh.1, hq⟩) | (simp_all; done)))))
          refine hK28 _ ?_
          clear hK28
          refine W_seq (fun K29 hK29 => ?_)
          refine W_region hT hG [] [1, 3, 4, 9, 10, 11, 23, 24, 25, 44] ?_
          rw [hnt]
          simp only [baseS, eq_self, implies_true, if_true, if_false, reduceIte, Nat.reduceBEq, Nat.reduceEqDiff, Nat.reduceLT, Nat.reduceAdd, reduceCtorEq, tyInt, tdInt, tyHull, tdHull, tyBoxes, tdBoxes, tyInts, tdInts, c_impl_PlanValid, c_impl_within, c_impl_Hull_tier, c_impl_portAt, decide_false, room, Nat.reduceLeDiff, Nat.zero_le, storeAV, rowQ, ownInts, FT.of, FT.setf, elems, appAV_I, appI, srcI, ownI, anyI, sameR, appAV_P, appP, srcP, ownP, anyP]
          repeat (refine And.intro ?_ ?_; focus (first | exact ordP (by kernel_rfl) | with_reducible exact rfl | assumption | trivial | (simp only [inR]; omega) | omega | exact ⟨by omega, by omega⟩ | exact ⟨by omega, by omega, by omega⟩ | exact ⟨by omega, ⟨by omega, by omega⟩, by assumption⟩ | exact ⟨by omega, by assumption⟩ | exact hfindj (by omega) | exact hfind (by omega) | exact ⟨by omega, hfind (by omega)⟩ | ((try simp only [decide_eq_true_eq, Bool.and_eq_true, ne_eq, decide_not, Bool.not_eq_true', Bool.not_eq_false', Bool.or_eq_false_iff, Bool.not_not, decide_eq_false_iff_not]); (try intro hh); (repeat' apply And.intro) <;> (first | omega | (simp only [inR]; omega) | assumption | exact ⟨by omega, ⟨by omega, by omega⟩, by assumption⟩ | exact ⟨by omega, by assumption⟩ | exact hfindj (by omega) | exact hfind (by omega) | exact ⟨by omega, hfind (by omega)⟩ | exact hh.1 | exact hh.2 | exact hh.2.1 | exact hh.2.2 | exact hh.1.1 | exact hh.1.2 | (intro hq; exact ⟨hh, hq⟩) | (intro hq; exact ⟨hh.1, hq⟩) | (simp_all; done)))))
          refine hK29 _ ?_
          clear hK29
          refine W_cond (b := _) rfl (fun hc30 => ?_) (fun hc30 => ?_)
          · try simp only [decide_eq_true_eq, decide_eq_false_iff_not, ne_eq, Decidable.not_not, Bool.not_eq_true', Bool.not_eq_false', Bool.or_eq_true, Bool.and_eq_true, Bool.or_eq_false_iff, Bool.and_eq_false_iff] at hc30
            refine W_region hT hG [] [1, 3, 4, 9, 10, 23, 24, 25] ?_
            rw [hnt]
            simp only [baseS, eq_self, implies_true, if_true, if_false, reduceIte, Nat.reduceBEq, Nat.reduceEqDiff, Nat.reduceLT, Nat.reduceAdd, reduceCtorEq, tyInt, tdInt, tyHull, tdHull, tyBoxes, tdBoxes, tyInts, tdInts, c_impl_PlanValid, c_impl_within, c_impl_Hull_tier, c_impl_portAt, decide_false, room, Nat.reduceLeDiff, Nat.zero_le, storeAV, rowQ, ownInts, FT.of, FT.setf, elems, appAV_I, appI, srcI, ownI, anyI, sameR, appAV_P, appP, srcP, ownP, anyP]
            repeat (refine And.intro ?_ ?_; focus (first | exact ordP (by kernel_rfl) | with_reducible exact rfl | assumption | trivial | (simp only [inR]; omega) | omega | exact ⟨by omega, by omega⟩ | exact ⟨by omega, by omega, by omega⟩ | exact ⟨by omega, ⟨by omega, by omega⟩, by assumption⟩ | exact ⟨by omega, by assumption⟩ | exact hfindj (by omega) | exact hfind (by omega) | exact ⟨by omega, hfind (by omega)⟩ | ((try simp only [decide_eq_true_eq, Bool.and_eq_true, ne_eq, decide_not, Bool.not_eq_true', Bool.not_eq_false', Bool.or_eq_false_iff, Bool.not_not, decide_eq_false_iff_not]); (try intro hh); (repeat' apply And.intro) <;> (first | omega | (simp only [inR]; omega) | assumption | exact ⟨by omega, ⟨by omega, by omega⟩, by assumption⟩ | exact ⟨by omega, by assumption⟩ | exact hfindj (by omega) | exact hfind (by omega) | exact ⟨by omega, hfind (by omega)⟩ | exact hh.1 | exact hh.2 | exact hh.2.1 | exact hh.2.2 | exact hh.1.1 | exact hh.1.2 | (intro hq; exact ⟨hh, hq⟩) | (intro hq; exact ⟨hh.1, hq⟩) | (simp_all; done)))))
            refine hK14 _ ?_
            clear hK14
            refine W_region hT hG [] [1, 3, 4, 9, 10, 23, 24, 25] ?_
            rw [hnt]
            simp only [baseS, eq_self, implies_true, if_true, if_false, reduceIte, Nat.reduceBEq, Nat.reduceEqDiff, Nat.reduceLT, Nat.reduceAdd, reduceCtorEq, tyInt, tdInt, tyHull, tdHull, tyBoxes, tdBoxes, tyInts, tdInts, c_impl_PlanValid, c_impl_within, c_impl_Hull_tier, c_impl_portAt, decide_false, room, Nat.reduceLeDiff, Nat.zero_le, storeAV, rowQ, ownInts, FT.of, FT.setf, elems, appAV_I, appI, srcI, ownI, anyI, sameR, appAV_P, appP, srcP, ownP, anyP]
            repeat (refine And.intro ?_ ?_; focus (first | exact ordP (by kernel_rfl) | with_reducible exact rfl | assumption | trivial | (simp only [inR]; omega) | omega | exact ⟨by omega, by omega⟩ | exact ⟨by omega, by omega, by omega⟩ | exact ⟨by omega, ⟨by omega, by omega⟩, by assumption⟩ | exact ⟨by omega, by assumption⟩ | exact hfindj (by omega) | exact hfind (by omega) | exact ⟨by omega, hfind (by omega)⟩ | ((try simp only [decide_eq_true_eq, Bool.and_eq_true, ne_eq, decide_not, Bool.not_eq_true', Bool.not_eq_false', Bool.or_eq_false_iff, Bool.not_not, decide_eq_false_iff_not]); (try intro hh); (repeat' apply And.intro) <;> (first | omega | (simp only [inR]; omega) | assumption | exact ⟨by omega, ⟨by omega, by omega⟩, by assumption⟩ | exact ⟨by omega, by assumption⟩ | exact hfindj (by omega) | exact hfind (by omega) | exact ⟨by omega, hfind (by omega)⟩ | exact hh.1 | exact hh.2 | exact hh.2.1 | exact hh.2.2 | exact hh.1.1 | exact hh.1.2 | (intro hq; exact ⟨hh, hq⟩) | (intro hq; exact ⟨hh.1, hq⟩) | (simp_all; done)))))
            first
            | (refine ⟨(i + 1, out, _), (by (try simp only [hnt, hnp]); rfl), ⟨by dsimp only; omega, by dsimp only; omega, ?_, ?_⟩, by dsimp only; omega⟩; (dsimp only; rw [selTo_no hi0 (by rw [hoff, decide_eq_false (fun hn => hn hc30), Bool.false_and]), hO]); (dsimp only; rw [hout, decide_eq_false (fun hn => hn hc30), Bool.false_and, Bool.or_false, if_pos hc27]))
            | (refine ⟨(i + 1, out, _), (by (try simp only [hnt, hnp]); rfl), ⟨by dsimp only; omega, by dsimp only; omega, ?_, ?_⟩, by dsimp only; omega⟩; (dsimp only; rw [selTo_no hi0 (by rw [hoff, decide_eq_false (fun hn => hn hc30), Bool.false_and]), hO]); (dsimp only; rw [hout, decide_eq_false (fun hn => hn hc30), Bool.false_and, Bool.or_false, if_neg hc27]))
            | (refine ⟨(i + 1, out ++ [i], _), (by (try simp only [hnt, hnp]); rfl), ⟨by dsimp only; omega, by dsimp only; omega, ?_, ?_⟩, by dsimp only; omega⟩; (dsimp only; rw [selTo_yes hi0 (by rw [hoff, decide_eq_true hc27, Bool.true_and, if_pos hc18, Bool.false_or]; simp only [Bool.or_eq_true, decide_eq_true_eq]; exact hc30), hO]); (dsimp only; rw [hout, decide_eq_true hc27, Bool.true_and, if_pos hc18, Bool.false_or]))
            | (refine ⟨(i + 1, out, _), (by (try simp only [hnt, hnp]); rfl), ⟨by dsimp only; omega, by dsimp only; omega, ?_, ?_⟩, by dsimp only; omega⟩; (dsimp only; rw [selTo_no hi0 (by rw [hoff, decide_eq_true hc27, Bool.true_and, if_pos hc18, Bool.false_or]; simp only [Bool.or_eq_false_iff, decide_eq_false_iff_not]; exact hc30), hO]); (dsimp only; rw [hout, decide_eq_true hc27, Bool.true_and, if_pos hc18, Bool.false_or]))
            | (refine ⟨(i + 1, out ++ [i], _), (by (try simp only [hnt, hnp]); rfl), ⟨by dsimp only; omega, by dsimp only; omega, ?_, ?_⟩, by dsimp only; omega⟩; (dsimp only; rw [selTo_yes hi0 (by rw [hoff, decide_eq_true hc27, Bool.true_and, if_neg hc18]; simp only [Bool.or_eq_true, decide_eq_true_eq]; exact hc30), hO]); (dsimp only; rw [hout, decide_eq_true hc27, Bool.true_and, if_neg hc18]))
            | (refine ⟨(i + 1, out, _), (by (try simp only [hnt, hnp]); rfl), ⟨by dsimp only; omega, by dsimp only; omega, ?_, ?_⟩, by dsimp only; omega⟩; (dsimp only; rw [selTo_no hi0 (by rw [hoff, decide_eq_true hc27, Bool.true_and, if_neg hc18]; simp only [Bool.or_eq_false_iff, decide_eq_false_iff_not]; exact hc30), hO]); (dsimp only; rw [hout, decide_eq_true hc27, Bool.true_and, if_neg hc18]))
          · try simp only [decide_eq_true_eq, decide_eq_false_iff_not, ne_eq, Decidable.not_not, Bool.not_eq_true', Bool.not_eq_false', Bool.or_eq_true, Bool.and_eq_true, Bool.or_eq_false_iff, Bool.and_eq_false_iff] at hc30
            refine W_skip ?_
            simp only [thenQ, blockQ, loopQ, reduceIte, Nat.reduceEqDiff]
            refine hK14 _ ?_
            clear hK14
            refine W_region hT hG [] [1, 3, 4, 9, 10, 23, 24, 25] ?_
            rw [hnt]
            simp only [baseS, eq_self, implies_true, if_true, if_false, reduceIte, Nat.reduceBEq, Nat.reduceEqDiff, Nat.reduceLT, Nat.reduceAdd, reduceCtorEq, tyInt, tdInt, tyHull, tdHull, tyBoxes, tdBoxes, tyInts, tdInts, c_impl_PlanValid, c_impl_within, c_impl_Hull_tier, c_impl_portAt, decide_false, room, Nat.reduceLeDiff, Nat.zero_le, storeAV, rowQ, ownInts, FT.of, FT.setf, elems, appAV_I, appI, srcI, ownI, anyI, sameR, appAV_P, appP, srcP, ownP, anyP]
            repeat (refine And.intro ?_ ?_; focus (first | exact ordP (by kernel_rfl) | with_reducible exact rfl | assumption | trivial | (simp only [inR]; omega) | omega | exact ⟨by omega, by omega⟩ | exact ⟨by omega, by omega, by omega⟩ | exact ⟨by omega, ⟨by omega, by omega⟩, by assumption⟩ | exact ⟨by omega, by assumption⟩ | exact hfindj (by omega) | exact hfind (by omega) | exact ⟨by omega, hfind (by omega)⟩ | ((try simp only [decide_eq_true_eq, Bool.and_eq_true, ne_eq, decide_not, Bool.not_eq_true', Bool.not_eq_false', Bool.or_eq_false_iff, Bool.not_not, decide_eq_false_iff_not]); (try intro hh); (repeat' apply And.intro) <;> (first | omega | (simp only [inR]; omega) | assumption | exact ⟨by omega, ⟨by omega, by omega⟩, by assumption⟩ | exact ⟨by omega, by assumption⟩ | exact hfindj (by omega) | exact hfind (by omega) | exact ⟨by omega, hfind (by omega)⟩ | exact hh.1 | exact hh.2 | exact hh.2.1 | exact hh.2.2 | exact hh.1.1 | exact hh.1.2 | (intro hq; exact ⟨hh, hq⟩) | (intro hq; exact ⟨hh.1, hq⟩) | (simp_all; done)))))
            first
            | (refine ⟨(i + 1, out, _), (by (try simp only [hnt, hnp]); rfl), ⟨by dsimp only; omega, by dsimp only; omega, ?_, ?_⟩, by dsimp only; omega⟩; (dsimp only; rw [selTo_no hi0 (by rw [hoff, decide_eq_false (fun hn => hn hc30), Bool.false_and]), hO]); (dsimp only; rw [hout, decide_eq_false (fun hn => hn hc30), Bool.false_and, Bool.or_false, if_pos hc27]))
            | (refine ⟨(i + 1, out, _), (by (try simp only [hnt, hnp]); rfl), ⟨by dsimp only; omega, by dsimp only; omega, ?_, ?_⟩, by dsimp only; omega⟩; (dsimp only; rw [selTo_no hi0 (by rw [hoff, decide_eq_false (fun hn => hn hc30), Bool.false_and]), hO]); (dsimp only; rw [hout, decide_eq_false (fun hn => hn hc30), Bool.false_and, Bool.or_false, if_neg hc27]))
            | (refine ⟨(i + 1, out ++ [i], _), (by (try simp only [hnt, hnp]); rfl), ⟨by dsimp only; omega, by dsimp only; omega, ?_, ?_⟩, by dsimp only; omega⟩; (dsimp only; rw [selTo_yes hi0 (by rw [hoff, decide_eq_true hc27, Bool.true_and, if_pos hc18, Bool.false_or]; simp only [Bool.or_eq_true, decide_eq_true_eq]; exact hc30), hO]); (dsimp only; rw [hout, decide_eq_true hc27, Bool.true_and, if_pos hc18, Bool.false_or]))
            | (refine ⟨(i + 1, out, _), (by (try simp only [hnt, hnp]); rfl), ⟨by dsimp only; omega, by dsimp only; omega, ?_, ?_⟩, by dsimp only; omega⟩; (dsimp only; rw [selTo_no hi0 (by rw [hoff, decide_eq_true hc27, Bool.true_and, if_pos hc18, Bool.false_or]; simp only [Bool.or_eq_false_iff, decide_eq_false_iff_not]; exact hc30), hO]); (dsimp only; rw [hout, decide_eq_true hc27, Bool.true_and, if_pos hc18, Bool.false_or]))
            | (refine ⟨(i + 1, out ++ [i], _), (by (try simp only [hnt, hnp]); rfl), ⟨by dsimp only; omega, by dsimp only; omega, ?_, ?_⟩, by dsimp only; omega⟩; (dsimp only; rw [selTo_yes hi0 (by rw [hoff, decide_eq_true hc27, Bool.true_and, if_neg hc18]; simp only [Bool.or_eq_true, decide_eq_true_eq]; exact hc30), hO]); (dsimp only; rw [hout, decide_eq_true hc27, Bool.true_and, if_neg hc18]))
            | (refine ⟨(i + 1, out, _), (by (try simp only [hnt, hnp]); rfl), ⟨by dsimp only; omega, by dsimp only; omega, ?_, ?_⟩, by dsimp only; omega⟩; (dsimp only; rw [selTo_no hi0 (by rw [hoff, decide_eq_true hc27, Bool.true_and, if_neg hc18]; simp only [Bool.or_eq_false_iff, decide_eq_false_iff_not]; exact hc30), hO]); (dsimp only; rw [hout, decide_eq_true hc27, Bool.true_and, if_neg hc18]))
    · try simp only [decide_eq_true_eq, decide_eq_false_iff_not, ne_eq, Decidable.not_not, Bool.not_eq_true', Bool.not_eq_false', Bool.or_eq_true, Bool.and_eq_true, Bool.or_eq_false_iff, Bool.and_eq_false_iff] at hc13
      refine W_exit ?_
      simp only [thenQ, blockQ, loopQ, reduceIte, Nat.reduceEqDiff]
      refine hK8 _ ?_
      clear hK8
      refine W_seq (fun K31 hK31 => ?_)
      refine W_region hT hG [] [8] ?_
      rw [hnt]
      simp only [baseS, eq_self, implies_true, if_true, if_false, reduceIte, Nat.reduceBEq, Nat.reduceEqDiff, Nat.reduceLT, Nat.reduceAdd, reduceCtorEq, tyInt, tdInt, tyHull, tdHull, tyBoxes, tdBoxes, tyInts, tdInts, c_impl_PlanValid, c_impl_within, c_impl_Hull_tier, c_impl_portAt, decide_false, room, Nat.reduceLeDiff, Nat.zero_le, storeAV, rowQ, ownInts, FT.of, FT.setf, elems, appAV_I, appI, srcI, ownI, anyI, sameR, appAV_P, appP, srcP, ownP, anyP]
      repeat (refine And.intro ?_ ?_; focus (first | exact ordP (by kernel_rfl) | with_reducible exact rfl | assumption | trivial | (simp only [inR]; omega) | omega | exact ⟨by omega, by omega⟩ | exact ⟨by omega, by omega, by omega⟩ | exact ⟨by omega, ⟨by omega, by omega⟩, by assumption⟩ | exact ⟨by omega, by assumption⟩ | exact hfindj (by omega) | exact hfind (by omega) | exact ⟨by omega, hfind (by omega)⟩ | ((try simp only [decide_eq_true_eq, Bool.and_eq_true, ne_eq, decide_not, Bool.not_eq_true', Bool.not_eq_false', Bool.or_eq_false_iff, Bool.not_not, decide_eq_false_iff_not]); (try intro hh); (repeat' apply And.intro) <;> (first | omega | (simp only [inR]; omega) | assumption | exact ⟨by omega, ⟨by omega, by omega⟩, by assumption⟩ | exact ⟨by omega, by assumption⟩ | exact hfindj (by omega) | exact hfind (by omega) | exact ⟨by omega, hfind (by omega)⟩ | exact hh.1 | exact hh.2 | exact hh.2.1 | exact hh.2.2 | exact hh.1.1 | exact hh.1.2 | (intro hq; exact ⟨hh, hq⟩) | (intro hq; exact ⟨hh.1, hq⟩) | (simp_all; done)))))
      refine hK31 _ ?_
      clear hK31
      refine W_re [(8, .own 3 .i64)] (by (try simp only [hnt, hnp]); rfl) ?_
      refine W_ret ?_
      simp only [thenQ, blockQ, loopQ, retQ, reduceIte, Nat.reduceEqDiff]
      refine ret1s 8 rfl rfl rfl ?_
      all_goals (
        first | exact offR_no hc13 | (rw [offR, if_pos hc4, hO, show i.toNat = p.length by omega]; done))

def c_spec_PortMoves : Ctr where
  modes := [.v .p, .v (.r .box), .v (.r .i64), .v .p]
  al := false
  run := fun xs os => match xs, os with
    | [.agg [.int b, .int r, .int t], .rs .box bs, .rs .i64 p, .int port], [] => some ⟨bs.length ≤ 9223372036854775807 ∧ p.length ≤ 9223372036854775807, .sl 0, [.sl 3 .i64 (offR b r t bs p port)], []⟩
    | _, _ => none
theorem m_spec_PortMoves : Meets Try.prog 41 c_spec_PortMoves := by
  refine meets_of (T := tyT) tyOK Try.func41 (by rfl) rfl (by decide) ?_
  intro args owns R hrun hpre
  simp only [c_spec_PortMoves] at hrun
  split at hrun
  case h_2 => cases hrun
  rename_i b r t bs p port
  cases hrun
  try dsimp only at hpre
  refine ⟨_, rfl, fun E hP hnt hnp => ?_⟩
  replace hnt : E.nt = 84 := hnt
  replace hnp : E.np = 4 := hnp
  have hT : ∀ t d, tyT t = some d → TyOK E.P t d := hP ▸ tyOK
  have hG : ∀ f C, Γof [(42, c_spec_PlanValid), (88, c_spec_l1In), (91, c_spec_l10Port), (92, c_spec_l10Above)] f = some C → Meets E.P f C := hΓof (by rw [hP]; exact ⟨m_spec_PlanValid, m_spec_l1In, m_spec_l10Port, m_spec_l10Above, trivial⟩)
  try simp only [show Try.f41.ntmps = 84 from rfl]
  have hbs := hpre.1
  have hp := hpre.2
  refine W_seq (fun K1 hK1 => ?_)
  refine W_region hT hG [] [1, 2, 3, 4] ?_
  rw [hnt]
  simp only [baseS, eq_self, implies_true, if_true, if_false, reduceIte, Nat.reduceBEq, Nat.reduceEqDiff, Nat.reduceLT, Nat.reduceAdd, reduceCtorEq, tyInt, tdInt, tyHull, tdHull, tyBoxes, tdBoxes, tyInts, tdInts, c_spec_PlanValid, c_spec_l1In, c_spec_l10Port, c_spec_l10Above, decide_false, room, Nat.reduceLeDiff, Nat.zero_le, storeAV, rowQ, ownInts, FT.of, FT.setf, elems, appAV_I, appI, srcI, ownI, anyI, sameR, appAV_P, appP, srcP, ownP, anyP]
  repeat (refine And.intro ?_ ?_; focus (first | exact ordP (by kernel_rfl) | with_reducible exact rfl | assumption | trivial | (simp only [inR]; omega) | omega | exact ⟨by omega, by omega⟩ | exact ⟨by omega, by omega, by omega⟩ | exact ⟨by omega, ⟨by omega, by omega⟩, by assumption⟩ | exact ⟨by omega, by assumption⟩ | exact hfindj (by omega) | exact hfind (by omega) | exact ⟨by omega, hfind (by omega)⟩ | ((try simp only [decide_eq_true_eq, Bool.and_eq_true, ne_eq, decide_not, Bool.not_eq_true', Bool.not_eq_false', Bool.or_eq_false_iff, Bool.not_not, decide_eq_false_iff_not]); (try intro hh); (repeat' apply And.intro) <;> (first | omega | (simp only [inR]; omega) | assumption | exact ⟨by omega, ⟨by omega, by omega⟩, by assumption⟩ | exact ⟨by omega, by assumption⟩ | exact hfindj (by omega) | exact hfind (by omega) | exact ⟨by omega, hfind (by omega)⟩ | exact hh.1 | exact hh.2 | exact hh.2.1 | exact hh.2.2 | exact hh.1.1 | exact hh.1.2 | (intro hq; exact ⟨hh, hq⟩) | (intro hq; exact ⟨hh.1, hq⟩) | (simp_all; done)))))
  refine hK1 _ ?_
  clear hK1
  refine W_seq (fun K2 hK2 => ?_)
  refine W_region hT hG [] [1, 2, 3, 4, 9] ?_
  rw [hnt]
  simp only [baseS, eq_self, implies_true, if_true, if_false, reduceIte, Nat.reduceBEq, Nat.reduceEqDiff, Nat.reduceLT, Nat.reduceAdd, reduceCtorEq, tyInt, tdInt, tyHull, tdHull, tyBoxes, tdBoxes, tyInts, tdInts, c_spec_PlanValid, c_spec_l1In, c_spec_l10Port, c_spec_l10Above, decide_false, room, Nat.reduceLeDiff, Nat.zero_le, storeAV, rowQ, ownInts, FT.of, FT.setf, elems, appAV_I, appI, srcI, ownI, anyI, sameR, appAV_P, appP, srcP, ownP, anyP]
  repeat (refine And.intro ?_ ?_; focus (first | exact ordP (by kernel_rfl) | with_reducible exact rfl | assumption | trivial | (simp only [inR]; omega) | omega | exact ⟨by omega, by omega⟩ | exact ⟨by omega, by omega, by omega⟩ | exact ⟨by omega, ⟨by omega, by omega⟩, by assumption⟩ | exact ⟨by omega, by assumption⟩ | exact hfindj (by omega) | exact hfind (by omega) | exact ⟨by omega, hfind (by omega)⟩ | ((try simp only [decide_eq_true_eq, Bool.and_eq_true, ne_eq, decide_not, Bool.not_eq_true', Bool.not_eq_false', Bool.or_eq_false_iff, Bool.not_not, decide_eq_false_iff_not]); (try intro hh); (repeat' apply And.intro) <;> (first | omega | (simp only [inR]; omega) | assumption | exact ⟨by omega, ⟨by omega, by omega⟩, by assumption⟩ | exact ⟨by omega, by assumption⟩ | exact hfindj (by omega) | exact hfind (by omega) | exact ⟨by omega, hfind (by omega)⟩ | exact hh.1 | exact hh.2 | exact hh.2.1 | exact hh.2.2 | exact hh.1.1 | exact hh.1.2 | (intro hq; exact ⟨hh, hq⟩) | (intro hq; exact ⟨hh.1, hq⟩) | (simp_all; done)))))
  refine hK2 _ ?_
  clear hK2
  refine W_seq (fun K3 hK3 => ?_)
  refine W_seq (fun K4 hK4 => ?_)
  refine W_region hT hG [] [1, 2, 3, 4, 9, 23] ?_
  rw [hnt]
  simp only [baseS, eq_self, implies_true, if_true, if_false, reduceIte, Nat.reduceBEq, Nat.reduceEqDiff, Nat.reduceLT, Nat.reduceAdd, reduceCtorEq, tyInt, tdInt, tyHull, tdHull, tyBoxes, tdBoxes, tyInts, tdInts, c_spec_PlanValid, c_spec_l1In, c_spec_l10Port, c_spec_l10Above, decide_false, room, Nat.reduceLeDiff, Nat.zero_le, storeAV, rowQ, ownInts, FT.of, FT.setf, elems, appAV_I, appI, srcI, ownI, anyI, sameR, appAV_P, appP, srcP, ownP, anyP]
  repeat (refine And.intro ?_ ?_; focus (first | exact ordP (by kernel_rfl) | with_reducible exact rfl | assumption | trivial | (simp only [inR]; omega) | omega | exact ⟨by omega, by omega⟩ | exact ⟨by omega, by omega, by omega⟩ | exact ⟨by omega, ⟨by omega, by omega⟩, by assumption⟩ | exact ⟨by omega, by assumption⟩ | exact hfindj (by omega) | exact hfind (by omega) | exact ⟨by omega, hfind (by omega)⟩ | ((try simp only [decide_eq_true_eq, Bool.and_eq_true, ne_eq, decide_not, Bool.not_eq_true', Bool.not_eq_false', Bool.or_eq_false_iff, Bool.not_not, decide_eq_false_iff_not]); (try intro hh); (repeat' apply And.intro) <;> (first | omega | (simp only [inR]; omega) | assumption | exact ⟨by omega, ⟨by omega, by omega⟩, by assumption⟩ | exact ⟨by omega, by assumption⟩ | exact hfindj (by omega) | exact hfind (by omega) | exact ⟨by omega, hfind (by omega)⟩ | exact hh.1 | exact hh.2 | exact hh.2.1 | exact hh.2.2 | exact hh.1.1 | exact hh.1.2 | (intro hq; exact ⟨hh, hq⟩) | (intro hq; exact ⟨hh.1, hq⟩) | (simp_all; done)))))
  refine hK4 _ ?_
  clear hK4
  refine W_cond (b := _) rfl (fun hc5 => ?_) (fun hc5 => ?_)
  · try simp only [decide_eq_true_eq, decide_eq_false_iff_not, ne_eq, Decidable.not_not, Bool.not_eq_true', Bool.not_eq_false', Bool.or_eq_true, Bool.and_eq_true, Bool.or_eq_false_iff, Bool.and_eq_false_iff] at hc5
    refine W_seq (fun K6 hK6 => ?_)
    refine W_region hT hG [] [8] ?_
    rw [hnt]
    simp only [baseS, eq_self, implies_true, if_true, if_false, reduceIte, Nat.reduceBEq, Nat.reduceEqDiff, Nat.reduceLT, Nat.reduceAdd, reduceCtorEq, tyInt, tdInt, tyHull, tdHull, tyBoxes, tdBoxes, tyInts, tdInts, c_spec_PlanValid, c_spec_l1In, c_spec_l10Port, c_spec_l10Above, decide_false, room, Nat.reduceLeDiff, Nat.zero_le, storeAV, rowQ, ownInts, FT.of, FT.setf, elems, appAV_I, appI, srcI, ownI, anyI, sameR, appAV_P, appP, srcP, ownP, anyP]
    repeat (refine And.intro ?_ ?_; focus (first | exact ordP (by kernel_rfl) | with_reducible exact rfl | assumption | trivial | (simp only [inR]; omega) | omega | exact ⟨by omega, by omega⟩ | exact ⟨by omega, by omega, by omega⟩ | exact ⟨by omega, ⟨by omega, by omega⟩, by assumption⟩ | exact ⟨by omega, by assumption⟩ | exact hfindj (by omega) | exact hfind (by omega) | exact ⟨by omega, hfind (by omega)⟩ | ((try simp only [decide_eq_true_eq, Bool.and_eq_true, ne_eq, decide_not, Bool.not_eq_true', Bool.not_eq_false', Bool.or_eq_false_iff, Bool.not_not, decide_eq_false_iff_not]); (try intro hh); (repeat' apply And.intro) <;> (first | omega | (simp only [inR]; omega) | assumption | exact ⟨by omega, ⟨by omega, by omega⟩, by assumption⟩ | exact ⟨by omega, by assumption⟩ | exact hfindj (by omega) | exact hfind (by omega) | exact ⟨by omega, hfind (by omega)⟩ | exact hh.1 | exact hh.2 | exact hh.2.1 | exact hh.2.2 | exact hh.1.1 | exact hh.1.2 | (intro hq; exact ⟨hh, hq⟩) | (intro hq; exact ⟨hh.1, hq⟩) | (simp_all; done)))))
    refine hK6 _ ?_
    clear hK6
    refine W_re [(8, .own 3 .i64)] (by (try simp only [hnt, hnp]); rfl) ?_
    refine W_ret ?_
    simp only [thenQ, blockQ, loopQ, retQ, reduceIte, Nat.reduceEqDiff]
    refine ret1s 8 rfl rfl rfl ?_
    all_goals (
      first | exact offR_no hc5 | (rw [offR, if_pos hc5, hO, show i.toNat = p.length by omega]; done))
  · try simp only [decide_eq_true_eq, decide_eq_false_iff_not, ne_eq, Decidable.not_not, Bool.not_eq_true', Bool.not_eq_false', Bool.or_eq_true, Bool.and_eq_true, Bool.or_eq_false_iff, Bool.and_eq_false_iff] at hc5
    refine W_skip ?_
    simp only [thenQ, blockQ, loopQ, reduceIte, Nat.reduceEqDiff]
    refine hK3 _ ?_
    clear hK3
    refine W_seq (fun K7 hK7 => ?_)
    refine W_seq (fun K8 hK8 => ?_)
    refine W_region hT hG [] [1, 2, 3, 4, 9, 10] ?_
    rw [hnt]
    simp only [baseS, eq_self, implies_true, if_true, if_false, reduceIte, Nat.reduceBEq, Nat.reduceEqDiff, Nat.reduceLT, Nat.reduceAdd, reduceCtorEq, tyInt, tdInt, tyHull, tdHull, tyBoxes, tdBoxes, tyInts, tdInts, c_spec_PlanValid, c_spec_l1In, c_spec_l10Port, c_spec_l10Above, decide_false, room, Nat.reduceLeDiff, Nat.zero_le, storeAV, rowQ, ownInts, FT.of, FT.setf, elems, appAV_I, appI, srcI, ownI, anyI, sameR, appAV_P, appP, srcP, ownP, anyP]
    repeat (refine And.intro ?_ ?_; focus (first | exact ordP (by kernel_rfl) | with_reducible exact rfl | assumption | trivial | (simp only [inR]; omega) | omega | exact ⟨by omega, by omega⟩ | exact ⟨by omega, by omega, by omega⟩ | exact ⟨by omega, ⟨by omega, by omega⟩, by assumption⟩ | exact ⟨by omega, by assumption⟩ | exact hfindj (by omega) | exact hfind (by omega) | exact ⟨by omega, hfind (by omega)⟩ | ((try simp only [decide_eq_true_eq, Bool.and_eq_true, ne_eq, decide_not, Bool.not_eq_true', Bool.not_eq_false', Bool.or_eq_false_iff, Bool.not_not, decide_eq_false_iff_not]); (try intro hh); (repeat' apply And.intro) <;> (first | omega | (simp only [inR]; omega) | assumption | exact ⟨by omega, ⟨by omega, by omega⟩, by assumption⟩ | exact ⟨by omega, by assumption⟩ | exact hfindj (by omega) | exact hfind (by omega) | exact ⟨by omega, hfind (by omega)⟩ | exact hh.1 | exact hh.2 | exact hh.2.1 | exact hh.2.2 | exact hh.1.1 | exact hh.1.2 | (intro hq; exact ⟨hh, hq⟩) | (intro hq; exact ⟨hh.1, hq⟩) | (simp_all; done)))))
    refine hK8 _ ?_
    clear hK8
    refine W_block ?_
    refine W_loop (α := Int × List Int) [(1, .as), (2, .as), (3, .as), (4, .as), (9, .own 3 .i64), (10, .as)] (fun x => ⟨[(1, .rs .box bs), (2, .rs .i64 p), (3, .int port), (4, .rp [.int b, .int r, .int t]), (9, .sl 9), (10, .int x.1)], [(9, some (.sl 3 .i64 x.2))], 84⟩) (fun x => 0 ≤ x.1 ∧ x.1 ≤ p.length ∧ x.2 = selTo (offB t bs p port) x.1.toNat) (fun x => (p.length - x.1).toNat) (0, []) ?_ ?_ ?_
    · (try simp only [hnt, hnp]); rfl
    · exact ⟨by omega, by omega, rfl⟩
    rintro ⟨i, out⟩ ⟨hi0, hi1, hO⟩
    dsimp only at hi0 hi1 hO ⊢
    have hok := planB_ok hc5.1
    have hle := hok.le
    have htt := hv_t hok.ship
    have hfind := @PlanOK.find b r t bs p hok i.toNat
    have hol : out.length ≤ 36 := by rw [hO]; have := selTo_len (offB t bs p port) i.toNat; omega
    refine W_seq (fun K10 hK10 => ?_)
    refine W_seq (fun K11 hK11 => ?_)
    refine W_region hT hG [] [1, 2, 3, 4, 9, 10, 28] ?_
    rw [hnt]
    simp only [baseS, eq_self, implies_true, if_true, if_false, reduceIte, Nat.reduceBEq, Nat.reduceEqDiff, Nat.reduceLT, Nat.reduceAdd, reduceCtorEq, tyInt, tdInt, tyHull, tdHull, tyBoxes, tdBoxes, tyInts, tdInts, c_spec_PlanValid, c_spec_l1In, c_spec_l10Port, c_spec_l10Above, decide_false, room, Nat.reduceLeDiff, Nat.zero_le, storeAV, rowQ, ownInts, FT.of, FT.setf, elems, appAV_I, appI, srcI, ownI, anyI, sameR, appAV_P, appP, srcP, ownP, anyP]
    repeat (refine And.intro ?_ ?_; focus (first | exact ordP (by kernel_rfl) | with_reducible exact rfl | assumption | trivial | (simp only [inR]; omega) | omega | exact ⟨by omega, by omega⟩ | exact ⟨by omega, by omega, by omega⟩ | exact ⟨by omega, ⟨by omega, by omega⟩, by assumption⟩ | exact ⟨by omega, by assumption⟩ | exact hfindj (by omega) | exact hfind (by omega) | exact ⟨by omega, hfind (by omega)⟩ | ((try simp only [decide_eq_true_eq, Bool.and_eq_true, ne_eq, decide_not, Bool.not_eq_true', Bool.not_eq_false', Bool.or_eq_false_iff, Bool.not_not, decide_eq_false_iff_not]); (try intro hh); (repeat' apply And.intro) <;> (first | omega | (simp only [inR]; omega) | assumption | exact ⟨by omega, ⟨by omega, by omega⟩, by assumption⟩ | exact ⟨by omega, by assumption⟩ | exact hfindj (by omega) | exact hfind (by omega) | exact ⟨by omega, hfind (by omega)⟩ | exact hh.1 | exact hh.2 | exact hh.2.1 | exact hh.2.2 | exact hh.1.1 | exact hh.1.2 | (intro hq; exact ⟨hh, hq⟩) | (intro hq; exact ⟨hh.1, hq⟩) | (simp_all; done)))))
    refine hK11 _ ?_
    clear hK11
    refine W_cond (b := _) rfl (fun hc12 => ?_) (fun hc12 => ?_)
    · try simp only [decide_eq_true_eq, decide_eq_false_iff_not, ne_eq, Decidable.not_not, Bool.not_eq_true', Bool.not_eq_false', Bool.or_eq_true, Bool.and_eq_true, Bool.or_eq_false_iff, Bool.and_eq_false_iff] at hc12
      refine W_skip ?_
      simp only [thenQ, blockQ, loopQ, reduceIte, Nat.reduceEqDiff]
      refine hK10 _ ?_
      clear hK10
      refine W_seq (fun K13 hK13 => ?_)
      refine W_block ?_
      refine W_seq (fun K14 hK14 => ?_)
      refine W_region hT hG [] [1, 2, 3, 4, 9, 10, 11] ?_
      rw [hnt]
      simp only [baseS, eq_self, implies_true, if_true, if_false, reduceIte, Nat.reduceBEq, Nat.reduceEqDiff, Nat.reduceLT, Nat.reduceAdd, reduceCtorEq, tyInt, tdInt, tyHull, tdHull, tyBoxes, tdBoxes, tyInts, tdInts, c_spec_PlanValid, c_spec_l1In, c_spec_l10Port, c_spec_l10Above, decide_false, room, Nat.reduceLeDiff, Nat.zero_le, storeAV, rowQ, ownInts, FT.of, FT.setf, elems, appAV_I, appI, srcI, ownI, anyI, sameR, appAV_P, appP, srcP, ownP, anyP]
      repeat (refine And.intro ?_ ?_; focus (first | exact ordP (by kernel_rfl) | with_reducible exact rfl | assumption | trivial | (simp only [inR]; omega) | omega | exact ⟨by omega, by omega⟩ | exact ⟨by omega, by omega, by omega⟩ | exact ⟨by omega, ⟨by omega, by omega⟩, by assumption⟩ | exact ⟨by omega, by assumption⟩ | exact hfindj (by omega) | exact hfind (by omega) | exact ⟨by omega, hfind (by omega)⟩ | ((try simp only [decide_eq_true_eq, Bool.and_eq_true, ne_eq, decide_not, Bool.not_eq_true', Bool.not_eq_false', Bool.or_eq_false_iff, Bool.not_not, decide_eq_false_iff_not]); (try intro hh); (repeat' apply And.intro) <;> (first | omega | (simp only [inR]; omega) | assumption | exact ⟨by omega, ⟨by omega, by omega⟩, by assumption⟩ | exact ⟨by omega, by assumption⟩ | exact hfindj (by omega) | exact hfind (by omega) | exact ⟨by omega, hfind (by omega)⟩ | exact hh.1 | exact hh.2 | exact hh.2.1 | exact hh.2.2 | exact hh.1.1 | exact hh.1.2 | (intro hq; exact ⟨hh, hq⟩) | (intro hq; exact ⟨hh.1, hq⟩) | (simp_all; done)))))
      refine hK14 _ ?_
      clear hK14
      refine W_seq (fun K15 hK15 => ?_)
      refine W_seq (fun K16 hK16 => ?_)
      refine W_region hT hG [] [1, 2, 3, 4, 9, 10, 11, 12] ?_
      rw [hnt]
      simp only [baseS, eq_self, implies_true, if_true, if_false, reduceIte, Nat.reduceBEq, Nat.reduceEqDiff, Nat.reduceLT, Nat.reduceAdd, reduceCtorEq, tyInt, tdInt, tyHull, tdHull, tyBoxes, tdBoxes, tyInts, tdInts, c_spec_PlanValid, c_spec_l1In, c_spec_l10Port, c_spec_l10Above, decide_false, room, Nat.reduceLeDiff, Nat.zero_le, storeAV, rowQ, ownInts, FT.of, FT.setf, elems, appAV_I, appI, srcI, ownI, anyI, sameR, appAV_P, appP, srcP, ownP, anyP]
      repeat (refine And.intro ?_ ?_; focus (first | exact ordP (by kernel_rfl) | with_reducible exact rfl | assumption | trivial | (simp only [inR]; omega) | omega | exact ⟨by omega, by omega⟩ | exact ⟨by omega, by omega, by omega⟩ | exact ⟨by omega, ⟨by omega, by omega⟩, by assumption⟩ | exact ⟨by omega, by assumption⟩ | exact hfindj (by omega) | exact hfind (by omega) | exact ⟨by omega, hfind (by omega)⟩ | ((try simp only [decide_eq_true_eq, Bool.and_eq_true, ne_eq, decide_not, Bool.not_eq_true', Bool.not_eq_false', Bool.or_eq_false_iff, Bool.not_not, decide_eq_false_iff_not]); (try intro hh); (repeat' apply And.intro) <;> (first | omega | (simp only [inR]; omega) | assumption | exact ⟨by omega, ⟨by omega, by omega⟩, by assumption⟩ | exact ⟨by omega, by assumption⟩ | exact hfindj (by omega) | exact hfind (by omega) | exact ⟨by omega, hfind (by omega)⟩ | exact hh.1 | exact hh.2 | exact hh.2.1 | exact hh.2.2 | exact hh.1.1 | exact hh.1.2 | (intro hq; exact ⟨hh, hq⟩) | (intro hq; exact ⟨hh.1, hq⟩) | (simp_all; done)))))
      refine hK16 _ ?_
      clear hK16
      refine W_block ?_
      refine W_loop (α := Int × Bool) [(1, .as), (2, .as), (3, .as), (4, .as), (9, .own 3 .i64), (10, .as), (11, .as), (12, .as)] (fun y => ⟨[(1, .rs .box bs), (2, .rs .i64 p), (3, .int port), (4, .rp [.int b, .int r, .int t]), (9, .sl 9), (10, .int i), (11, .bool y.2), (12, .int y.1)], [(9, some (.sl 3 .i64 out))], 84⟩) (fun y => 0 ≤ y.1 ∧ y.1 ≤ i ∧ y.2 = (decide (p.getD i.toNat 0 ≠ 0) && ((List.range y.1.toNat).any (lowB t p (fun n => decide (pAt bs n = port)) i.toNat) || decide (pAt bs (p.getD i.toNat 0) = port)))) (fun y => (i - y.1).toNat) (0, decide (p.getD i.toNat 0 ≠ 0) && decide (pAt bs (p.getD i.toNat 0) = port)) ?_ ?_ ?_
      · (try simp only [hnt, hnp]); rfl
      · exact ⟨by omega, by omega, by simp⟩
      rintro ⟨j, ov⟩ ⟨hj0, hj1, hJ⟩
      dsimp only at hj0 hj1 hJ ⊢
      have hfindj := @PlanOK.find b r t bs p hok j.toNat
      refine W_seq (fun K18 hK18 => ?_)
      refine W_seq (fun K19 hK19 => ?_)
      refine W_region hT hG [] [1, 2, 3, 4, 9, 10, 11, 12, 53] ?_
      rw [hnt]
      simp only [baseS, eq_self, implies_true, if_true, if_false, reduceIte, Nat.reduceBEq, Nat.reduceEqDiff, Nat.reduceLT, Nat.reduceAdd, reduceCtorEq, tyInt, tdInt, tyHull, tdHull, tyBoxes, tdBoxes, tyInts, tdInts, c_spec_PlanValid, c_spec_l1In, c_spec_l10Port, c_spec_l10Above, decide_false, room, Nat.reduceLeDiff, Nat.zero_le, storeAV, rowQ, ownInts, FT.of, FT.setf, elems, appAV_I, appI, srcI, ownI, anyI, sameR, appAV_P, appP, srcP, ownP, anyP]
      repeat (refine And.intro ?_ ?_; focus (first | exact ordP (by kernel_rfl) | with_reducible exact rfl | assumption | trivial | (simp only [inR]; omega) | omega | exact ⟨by omega, by omega⟩ | exact ⟨by omega, by omega, by omega⟩ | exact ⟨by omega, ⟨by omega, by omega⟩, by assumption⟩ | exact ⟨by omega, by assumption⟩ | exact hfindj (by omega) | exact hfind (by omega) | exact ⟨by omega, hfind (by omega)⟩ | ((try simp only [decide_eq_true_eq, Bool.and_eq_true, ne_eq, decide_not, Bool.not_eq_true', Bool.not_eq_false', Bool.or_eq_false_iff, Bool.not_not, decide_eq_false_iff_not]); (try intro hh); (repeat' apply And.intro) <;> (first | omega | (simp only [inR]; omega) | assumption | exact ⟨by omega, ⟨by omega, by omega⟩, by assumption⟩ | exact ⟨by omega, by assumption⟩ | exact hfindj (by omega) | exact hfind (by omega) | exact ⟨by omega, hfind (by omega)⟩ | exact hh.1 | exact hh.2 | exact hh.2.1 | exact hh.2.2 | exact hh.1.1 | exact hh.1.2 | (intro hq; exact ⟨hh, hq⟩) | (intro hq; exact ⟨hh.1, hq⟩) | (simp_all; done)))))
      refine hK19 _ ?_
      clear hK19
      refine W_cond (b := _) rfl (fun hc20 => ?_) (fun hc20 => ?_)
      · try simp only [decide_eq_true_eq, decide_eq_false_iff_not, ne_eq, Decidable.not_not, Bool.not_eq_true', Bool.not_eq_false', Bool.or_eq_true, Bool.and_eq_true, Bool.or_eq_false_iff, Bool.and_eq_false_iff] at hc20
        refine W_skip ?_
        simp only [thenQ, blockQ, loopQ, reduceIte, Nat.reduceEqDiff]
        refine hK18 _ ?_
        clear hK18
        refine W_seq (fun K21 hK21 => ?_)
        refine W_block ?_
        refine W_region hT hG [] [1, 2, 3, 4, 9, 10, 11, 12] ?_
        rw [hnt]
        simp only [baseS, eq_self, implies_true, if_true, if_false, reduceIte, Nat.reduceBEq, Nat.reduceEqDiff, Nat.reduceLT, Nat.reduceAdd, reduceCtorEq, tyInt, tdInt, tyHull, tdHull, tyBoxes, tdBoxes, tyInts, tdInts, c_spec_PlanValid, c_spec_l1In, c_spec_l10Port, c_spec_l10Above, decide_false, room, Nat.reduceLeDiff, Nat.zero_le, storeAV, rowQ, ownInts, FT.of, FT.setf, elems, appAV_I, appI, srcI, ownI, anyI, sameR, appAV_P, appP, srcP, ownP, anyP]
        repeat (refine And.intro ?_ ?_; focus (first | exact ordP (by kernel_rfl) | with_reducible exact rfl | assumption | trivial | (simp only [inR]; omega) | omega | exact ⟨by omega, by omega⟩ | exact ⟨by omega, by omega, by omega⟩ | exact ⟨by omega, ⟨by omega, by omega⟩, by assumption⟩ | exact ⟨by omega, by assumption⟩ | exact hfindj (by omega) | exact hfind (by omega) | exact ⟨by omega, hfind (by omega)⟩ | ((try simp only [decide_eq_true_eq, Bool.and_eq_true, ne_eq, decide_not, Bool.not_eq_true', Bool.not_eq_false', Bool.or_eq_false_iff, Bool.not_not, decide_eq_false_iff_not]); (try intro hh); (repeat' apply And.intro) <;> (first | omega | (simp only [inR]; omega) | assumption | exact ⟨by omega, ⟨by omega, by omega⟩, by assumption⟩ | exact ⟨by omega, by assumption⟩ | exact hfindj (by omega) | exact hfind (by omega) | exact ⟨by omega, hfind (by omega)⟩ | exact hh.1 | exact hh.2 | exact hh.2.1 | exact hh.2.2 | exact hh.1.1 | exact hh.1.2 | (intro hq; exact ⟨hh, hq⟩) | (intro hq; exact ⟨hh.1, hq⟩) | (simp_all; done)))))
        refine hK21 _ ?_
        clear hK21
        refine W_region hT hG [] [1, 2, 3, 4, 9, 10, 11, 12] ?_
        rw [hnt]
        simp only [baseS, eq_self, implies_true, if_true, if_false, reduceIte, Nat.reduceBEq, Nat.reduceEqDiff, Nat.reduceLT, Nat.reduceAdd, reduceCtorEq, tyInt, tdInt, tyHull, tdHull, tyBoxes, tdBoxes, tyInts, tdInts, c_spec_PlanValid, c_spec_l1In, c_spec_l10Port, c_spec_l10Above, decide_false, room, Nat.reduceLeDiff, Nat.zero_le, storeAV, rowQ, ownInts, FT.of, FT.setf, elems, appAV_I, appI, srcI, ownI, anyI, sameR, appAV_P, appP, srcP, ownP, anyP]
        repeat (refine And.intro ?_ ?_; focus (first | exact ordP (by kernel_rfl) | with_reducible exact rfl | assumption | trivial | (simp only [inR]; omega) | omega | exact ⟨by omega, by omega⟩ | exact ⟨by omega, by omega, by omega⟩ | exact ⟨by omega, ⟨by omega, by omega⟩, by assumption⟩ | exact ⟨by omega, by assumption⟩ | exact hfindj (by omega) | exact hfind (by omega) | exact ⟨by omega, hfind (by omega)⟩ | ((try simp only [decide_eq_true_eq, Bool.and_eq_true, ne_eq, decide_not, Bool.not_eq_true', Bool.not_eq_false', Bool.or_eq_false_iff, Bool.not_not, decide_eq_false_iff_not]); (try intro hh); (repeat' apply And.intro) <;> (first | omega | (simp only [inR]; omega) | assumption | exact ⟨by omega, ⟨by omega, by omega⟩, by assumption⟩ | exact ⟨by omega, by assumption⟩ | exact hfindj (by omega) | exact hfind (by omega) | exact ⟨by omega, hfind (by omega)⟩ | exact hh.1 | exact hh.2 | exact hh.2.1 | exact hh.2.2 | exact hh.1.1 | exact hh.1.2 | (intro hq; exact ⟨hh, hq⟩) | (intro hq; exact ⟨hh.1, hq⟩) | (simp_all; done)))))
        refine ⟨(j + 1, _), (by (try simp only [hnt, hnp]); rfl), ⟨by dsimp only; omega, by dsimp only; omega, ?_⟩, by dsimp only; omega⟩
        dsimp only
        rw [low_step hj0 hi0, hJ, decide_eq_true hc20.2, Bool.true_and, Bool.true_and]
        have e3 : decide (j < i) = true := decide_eq_true hc20.1
        have e4 : decide (j / t = i / t) = decide (i / t = j / t) := decide_eq_decide.2 eq_comm
        simp only [e3, e4, Bool.true_and, cond_and3]
        generalize decide (p.getD j.toNat 0 ≠ 0) = P
        generalize decide (i / t = j / t) = F
        generalize decide (pAt bs (p.getD j.toNat 0) = port) = G
        generalize decide (pAt bs (p.getD i.toNat 0) = port) = G2
        generalize (List.range j.toNat).any _ = G3
        cases P <;> cases F <;> cases G <;> cases G2 <;> cases G3 <;> rfl
      · try simp only [decide_eq_true_eq, decide_eq_false_iff_not, ne_eq, Decidable.not_not, Bool.not_eq_true', Bool.not_eq_false', Bool.or_eq_true, Bool.and_eq_true, Bool.or_eq_false_iff, Bool.and_eq_false_iff] at hc20
        refine W_exit ?_
        simp only [thenQ, blockQ, loopQ, reduceIte, Nat.reduceEqDiff]
        refine hK15 _ ?_
        clear hK15
        refine W_seq (fun K22 hK22 => ?_)
        refine W_region hT hG [] [1, 2, 3, 4, 9, 10, 78] ?_
        rw [hnt]
        simp only [baseS, eq_self, implies_true, if_true, if_false, reduceIte, Nat.reduceBEq, Nat.reduceEqDiff, Nat.reduceLT, Nat.reduceAdd, reduceCtorEq, tyInt, tdInt, tyHull, tdHull, tyBoxes, tdBoxes, tyInts, tdInts, c_spec_PlanValid, c_spec_l1In, c_spec_l10Port, c_spec_l10Above, decide_false, room, Nat.reduceLeDiff, Nat.zero_le, storeAV, rowQ, ownInts, FT.of, FT.setf, elems, appAV_I, appI, srcI, ownI, anyI, sameR, appAV_P, appP, srcP, ownP, anyP]
        repeat (refine And.intro ?_ ?_; focus (first | exact ordP (by kernel_rfl) | with_reducible exact rfl | assumption | trivial | (simp only [inR]; omega) | omega | exact ⟨by omega, by omega⟩ | exact ⟨by omega, by omega, by omega⟩ | exact ⟨by omega, ⟨by omega, by omega⟩, by assumption⟩ | exact ⟨by omega, by assumption⟩ | exact hfindj (by omega) | exact hfind (by omega) | exact ⟨by omega, hfind (by omega)⟩ | ((try simp only [decide_eq_true_eq, Bool.and_eq_true, ne_eq, decide_not, Bool.not_eq_true', Bool.not_eq_false', Bool.or_eq_false_iff, Bool.not_not, decide_eq_false_iff_not]); (try intro hh); (repeat' apply And.intro) <;> (first | omega | (simp only [inR]; omega) | assumption | exact ⟨by omega, ⟨by omega, by omega⟩, by assumption⟩ | exact ⟨by omega, by assumption⟩ | exact hfindj (by omega) | exact hfind (by omega) | exact ⟨by omega, hfind (by omega)⟩ | exact hh.1 | exact hh.2 | exact hh.2.1 | exact hh.2.2 | exact hh.1.1 | exact hh.1.2 | (intro hq; exact ⟨hh, hq⟩) | (intro hq; exact ⟨hh.1, hq⟩) | (simp_all; done)))))
        refine hK22 _ ?_
        clear hK22
        refine W_cond (b := _) rfl (fun hc23 => ?_) (fun hc23 => ?_)
        · try simp only [decide_eq_true_eq, decide_eq_false_iff_not, ne_eq, Decidable.not_not, Bool.not_eq_true', Bool.not_eq_false', Bool.or_eq_true, Bool.and_eq_true, Bool.or_eq_false_iff, Bool.and_eq_false_iff] at hc23
          refine W_region hT hG [] [1, 2, 3, 4, 9, 10] ?_
          rw [hnt]
          simp only [baseS, eq_self, implies_true, if_true, if_false, reduceIte, Nat.reduceBEq, Nat.reduceEqDiff, Nat.reduceLT, Nat.reduceAdd, reduceCtorEq, tyInt, tdInt, tyHull, tdHull, tyBoxes, tdBoxes, tyInts, tdInts, c_spec_PlanValid, c_spec_l1In, c_spec_l10Port, c_spec_l10Above, decide_false, room, Nat.reduceLeDiff, Nat.zero_le, storeAV, rowQ, ownInts, FT.of, FT.setf, elems, appAV_I, appI, srcI, ownI, anyI, sameR, appAV_P, appP, srcP, ownP, anyP]
          repeat (refine And.intro ?_ ?_; focus (first | exact ordP (by kernel_rfl) | with_reducible exact rfl | assumption | trivial | (simp only [inR]; omega) | omega | exact ⟨by omega, by omega⟩ | exact ⟨by omega, by omega, by omega⟩ | exact ⟨by omega, ⟨by omega, by omega⟩, by assumption⟩ | exact ⟨by omega, by assumption⟩ | exact hfindj (by omega) | exact hfind (by omega) | exact ⟨by omega, hfind (by omega)⟩ | ((try simp only [decide_eq_true_eq, Bool.and_eq_true, ne_eq, decide_not, Bool.not_eq_true', Bool.not_eq_false', Bool.or_eq_false_iff, Bool.not_not, decide_eq_false_iff_not]); (try intro hh); (repeat' apply And.intro) <;> (first | omega | (simp only [inR]; omega) | assumption | exact ⟨by omega, ⟨by omega, by omega⟩, by assumption⟩ | exact ⟨by omega, by assumption⟩ | exact hfindj (by omega) | exact hfind (by omega) | exact ⟨by omega, hfind (by omega)⟩ | exact hh.1 | exact hh.2 | exact hh.2.1 | exact hh.2.2 | exact hh.1.1 | exact hh.1.2 | (intro hq; exact ⟨hh, hq⟩) | (intro hq; exact ⟨hh.1, hq⟩) | (simp_all; done)))))
          refine hK13 _ ?_
          clear hK13
          refine W_region hT hG [] [1, 2, 3, 4, 9, 10] ?_
          rw [hnt]
          simp only [baseS, eq_self, implies_true, if_true, if_false, reduceIte, Nat.reduceBEq, Nat.reduceEqDiff, Nat.reduceLT, Nat.reduceAdd, reduceCtorEq, tyInt, tdInt, tyHull, tdHull, tyBoxes, tdBoxes, tyInts, tdInts, c_spec_PlanValid, c_spec_l1In, c_spec_l10Port, c_spec_l10Above, decide_false, room, Nat.reduceLeDiff, Nat.zero_le, storeAV, rowQ, ownInts, FT.of, FT.setf, elems, appAV_I, appI, srcI, ownI, anyI, sameR, appAV_P, appP, srcP, ownP, anyP]
          repeat (refine And.intro ?_ ?_; focus (first | exact ordP (by kernel_rfl) | with_reducible exact rfl | assumption | trivial | (simp only [inR]; omega) | omega | exact ⟨by omega, by omega⟩ | exact ⟨by omega, by omega, by omega⟩ | exact ⟨by omega, ⟨by omega, by omega⟩, by assumption⟩ | exact ⟨by omega, by assumption⟩ | exact hfindj (by omega) | exact hfind (by omega) | exact ⟨by omega, hfind (by omega)⟩ | ((try simp only [decide_eq_true_eq, Bool.and_eq_true, ne_eq, decide_not, Bool.not_eq_true', Bool.not_eq_false', Bool.or_eq_false_iff, Bool.not_not, decide_eq_false_iff_not]); (try intro hh); (repeat' apply And.intro) <;> (first | omega | (simp only [inR]; omega) | assumption | exact ⟨by omega, ⟨by omega, by omega⟩, by assumption⟩ | exact ⟨by omega, by assumption⟩ | exact hfindj (by omega) | exact hfind (by omega) | exact ⟨by omega, hfind (by omega)⟩ | exact hh.1 | exact hh.2 | exact hh.2.1 | exact hh.2.2 | exact hh.1.1 | exact hh.1.2 | (intro hq; exact ⟨hh, hq⟩) | (intro hq; exact ⟨hh.1, hq⟩) | (simp_all; done)))))
          first
          | (refine ⟨(i + 1, out ++ [i]), (by (try simp only [hnt, hnp]); rfl), ⟨by dsimp only; omega, by dsimp only; omega, ?_⟩, by dsimp only; omega⟩; dsimp only; rw [selTo_yes hi0 (by rw [offR_off hi0 hj1 hc20, ← hJ]; exact hc23), hO]; done)
          | (refine ⟨(i + 1, out), (by (try simp only [hnt, hnp]); rfl), ⟨by dsimp only; omega, by dsimp only; omega, ?_⟩, by dsimp only; omega⟩; dsimp only; rw [selTo_no hi0 (by rw [offR_off hi0 hj1 hc20, ← hJ]; exact hc23), hO]; done)
        · try simp only [decide_eq_true_eq, decide_eq_false_iff_not, ne_eq, Decidable.not_not, Bool.not_eq_true', Bool.not_eq_false', Bool.or_eq_true, Bool.and_eq_true, Bool.or_eq_false_iff, Bool.and_eq_false_iff] at hc23
          refine W_skip ?_
          simp only [thenQ, blockQ, loopQ, reduceIte, Nat.reduceEqDiff]
          refine hK13 _ ?_
          clear hK13
          refine W_region hT hG [] [1, 2, 3, 4, 9, 10] ?_
          rw [hnt]
          simp only [baseS, eq_self, implies_true, if_true, if_false, reduceIte, Nat.reduceBEq, Nat.reduceEqDiff, Nat.reduceLT, Nat.reduceAdd, reduceCtorEq, tyInt, tdInt, tyHull, tdHull, tyBoxes, tdBoxes, tyInts, tdInts, c_spec_PlanValid, c_spec_l1In, c_spec_l10Port, c_spec_l10Above, decide_false, room, Nat.reduceLeDiff, Nat.zero_le, storeAV, rowQ, ownInts, FT.of, FT.setf, elems, appAV_I, appI, srcI, ownI, anyI, sameR, appAV_P, appP, srcP, ownP, anyP]
          repeat (refine And.intro ?_ ?_; focus (first | exact ordP (by kernel_rfl) | with_reducible exact rfl | assumption | trivial | (simp only [inR]; omega) | omega | exact ⟨by omega, by omega⟩ | exact ⟨by omega, by omega, by omega⟩ | exact ⟨by omega, ⟨by omega, by omega⟩, by assumption⟩ | exact ⟨by omega, by assumption⟩ | exact hfindj (by omega) | exact hfind (by omega) | exact ⟨by omega, hfind (by omega)⟩ | ((try simp only [decide_eq_true_eq, Bool.and_eq_true, ne_eq, decide_not, Bool.not_eq_true', Bool.not_eq_false', Bool.or_eq_false_iff, Bool.not_not, decide_eq_false_iff_not]); (try intro hh); (repeat' apply And.intro) <;> (first | omega | (simp only [inR]; omega) | assumption | exact ⟨by omega, ⟨by omega, by omega⟩, by assumption⟩ | exact ⟨by omega, by assumption⟩ | exact hfindj (by omega) | exact hfind (by omega) | exact ⟨by omega, hfind (by omega)⟩ | exact hh.1 | exact hh.2 | exact hh.2.1 | exact hh.2.2 | exact hh.1.1 | exact hh.1.2 | (intro hq; exact ⟨hh, hq⟩) | (intro hq; exact ⟨hh.1, hq⟩) | (simp_all; done)))))
          first
          | (refine ⟨(i + 1, out ++ [i]), (by (try simp only [hnt, hnp]); rfl), ⟨by dsimp only; omega, by dsimp only; omega, ?_⟩, by dsimp only; omega⟩; dsimp only; rw [selTo_yes hi0 (by rw [offR_off hi0 hj1 hc20, ← hJ]; exact hc23), hO]; done)
          | (refine ⟨(i + 1, out), (by (try simp only [hnt, hnp]); rfl), ⟨by dsimp only; omega, by dsimp only; omega, ?_⟩, by dsimp only; omega⟩; dsimp only; rw [selTo_no hi0 (by rw [offR_off hi0 hj1 hc20, ← hJ]; exact hc23), hO]; done)
    · try simp only [decide_eq_true_eq, decide_eq_false_iff_not, ne_eq, Decidable.not_not, Bool.not_eq_true', Bool.not_eq_false', Bool.or_eq_true, Bool.and_eq_true, Bool.or_eq_false_iff, Bool.and_eq_false_iff] at hc12
      refine W_exit ?_
      simp only [thenQ, blockQ, loopQ, reduceIte, Nat.reduceEqDiff]
      refine hK7 _ ?_
      clear hK7
      refine W_seq (fun K24 hK24 => ?_)
      refine W_region hT hG [] [8] ?_
      rw [hnt]
      simp only [baseS, eq_self, implies_true, if_true, if_false, reduceIte, Nat.reduceBEq, Nat.reduceEqDiff, Nat.reduceLT, Nat.reduceAdd, reduceCtorEq, tyInt, tdInt, tyHull, tdHull, tyBoxes, tdBoxes, tyInts, tdInts, c_spec_PlanValid, c_spec_l1In, c_spec_l10Port, c_spec_l10Above, decide_false, room, Nat.reduceLeDiff, Nat.zero_le, storeAV, rowQ, ownInts, FT.of, FT.setf, elems, appAV_I, appI, srcI, ownI, anyI, sameR, appAV_P, appP, srcP, ownP, anyP]
      repeat (refine And.intro ?_ ?_; focus (first | exact ordP (by kernel_rfl) | with_reducible exact rfl | assumption | trivial | (simp only [inR]; omega) | omega | exact ⟨by omega, by omega⟩ | exact ⟨by omega, by omega, by omega⟩ | exact ⟨by omega, ⟨by omega, by omega⟩, by assumption⟩ | exact ⟨by omega, by assumption⟩ | exact hfindj (by omega) | exact hfind (by omega) | exact ⟨by omega, hfind (by omega)⟩ | ((try simp only [decide_eq_true_eq, Bool.and_eq_true, ne_eq, decide_not, Bool.not_eq_true', Bool.not_eq_false', Bool.or_eq_false_iff, Bool.not_not, decide_eq_false_iff_not]); (try intro hh); (repeat' apply And.intro) <;> (first | omega | (simp only [inR]; omega) | assumption | exact ⟨by omega, ⟨by omega, by omega⟩, by assumption⟩ | exact ⟨by omega, by assumption⟩ | exact hfindj (by omega) | exact hfind (by omega) | exact ⟨by omega, hfind (by omega)⟩ | exact hh.1 | exact hh.2 | exact hh.2.1 | exact hh.2.2 | exact hh.1.1 | exact hh.1.2 | (intro hq; exact ⟨hh, hq⟩) | (intro hq; exact ⟨hh.1, hq⟩) | (simp_all; done)))))
      refine hK24 _ ?_
      clear hK24
      refine W_re [(8, .own 3 .i64)] (by (try simp only [hnt, hnp]); rfl) ?_
      refine W_ret ?_
      simp only [thenQ, blockQ, loopQ, retQ, reduceIte, Nat.reduceEqDiff]
      refine ret1s 8 rfl rfl rfl ?_
      all_goals (
        first | exact offR_no hc12 | (rw [offR, if_pos hc5, hO, show i.toNat = p.length by omega]; done))

end Go.Proofs.Ytjkghldkemoddaa
