/- Walks over overstowage. No condition. -/
import Derived.Test.YtjkghldkemoddaaPortA
namespace Go.Proofs.Ytjkghldkemoddaa
open Go
set_option linter.unusedVariables false
set_option linter.unusedSimpArgs false

def c_impl_Overstows : Ctr where
  modes := [.v .p, .v (.r .box), .v (.r .i64)]
  al := false
  run := fun xs os => match xs, os with
    | [.agg [.int b, .int r, .int t], .rs .box bs, .rs .i64 p], [] => some ⟨bs.length ≤ 9223372036854775807 ∧ p.length ≤ 9223372036854775807, .int (overR b r t bs p), [], []⟩
    | _, _ => none
theorem m_impl_Overstows : Meets Try.prog 44 c_impl_Overstows := by
  refine meets_of (T := tyT) tyOK Try.func44 (by rfl) rfl (by decide) ?_
  intro args owns R hrun hpre
  simp only [c_impl_Overstows] at hrun
  split at hrun
  case h_2 => cases hrun
  rename_i b r t bs p
  cases hrun
  try dsimp only at hpre
  refine ⟨_, rfl, fun E hP hnt hnp => ?_⟩
  replace hnt : E.nt = 49 := hnt
  replace hnp : E.np = 3 := hnp
  have hT : ∀ t d, tyT t = some d → TyOK E.P t d := hP ▸ tyOK
  have hG : ∀ f C, Γof [(51, c_impl_PlanValid), (76, c_impl_Hull_tier), (90, c_impl_portAt)] f = some C → Meets E.P f C := hΓof (by rw [hP]; exact ⟨m_impl_PlanValid, m_impl_Hull_tier, m_impl_portAt, trivial⟩)
  try simp only [show Try.f44.ntmps = 49 from rfl]
  have hbs := hpre.1
  have hp := hpre.2
  refine W_seq (fun K1 hK1 => ?_)
  refine W_region hT hG [] [1, 2, 3] ?_
  rw [hnt]
  simp only [baseS, eq_self, implies_true, if_true, if_false, reduceIte, Nat.reduceBEq, Nat.reduceEqDiff, Nat.reduceLT, Nat.reduceAdd, reduceCtorEq, tyInt, tdInt, tyHull, tdHull, tyBoxes, tdBoxes, tyInts, tdInts, c_impl_PlanValid, c_impl_Hull_tier, c_impl_portAt]
  repeat (refine And.intro ?_ ?_; focus (first | exact ordP (by kernel_rfl) | with_reducible exact rfl | assumption | trivial | (simp only [inR]; omega) | omega | exact ⟨by omega, by omega⟩ | exact ⟨by omega, by omega, by omega⟩ | exact ⟨by omega, ⟨by omega, by omega⟩, by assumption⟩ | exact ⟨by omega, by assumption⟩ | exact hfindj (by omega) | exact hfind (by omega) | exact ⟨by omega, hfind (by omega)⟩ | ((try simp only [decide_eq_true_eq, Bool.and_eq_true, ne_eq, decide_not, Bool.not_eq_true', Bool.not_eq_false', Bool.or_eq_false_iff, Bool.not_not, decide_eq_false_iff_not]); (try intro hh); (repeat' apply And.intro) <;> (first | omega | (simp only [inR]; omega) | assumption | exact ⟨by omega, ⟨by omega, by omega⟩, by assumption⟩ | exact ⟨by omega, by assumption⟩ | exact hfindj (by omega) | exact hfind (by omega) | exact ⟨by omega, hfind (by omega)⟩ | exact hh.1 | exact hh.2 | exact hh.2.1 | exact hh.2.2 | exact hh.1.1 | exact hh.1.2 | (intro hq; exact ⟨hh, hq⟩) | (intro hq; exact ⟨hh.1, hq⟩) | (simp_all; done)))))
  refine hK1 _ ?_
  clear hK1
  refine W_seq (fun K2 hK2 => ?_)
  refine W_seq (fun K3 hK3 => ?_)
  refine W_region hT hG [] [1, 2, 3, 15] ?_
  rw [hnt]
  simp only [baseS, eq_self, implies_true, if_true, if_false, reduceIte, Nat.reduceBEq, Nat.reduceEqDiff, Nat.reduceLT, Nat.reduceAdd, reduceCtorEq, tyInt, tdInt, tyHull, tdHull, tyBoxes, tdBoxes, tyInts, tdInts, c_impl_PlanValid, c_impl_Hull_tier, c_impl_portAt]
  repeat (refine And.intro ?_ ?_; focus (first | exact ordP (by kernel_rfl) | with_reducible exact rfl | assumption | trivial | (simp only [inR]; omega) | omega | exact ⟨by omega, by omega⟩ | exact ⟨by omega, by omega, by omega⟩ | exact ⟨by omega, ⟨by omega, by omega⟩, by assumption⟩ | exact ⟨by omega, by assumption⟩ | exact hfindj (by omega) | exact hfind (by omega) | exact ⟨by omega, hfind (by omega)⟩ | ((try simp only [decide_eq_true_eq, Bool.and_eq_true, ne_eq, decide_not, Bool.not_eq_true', Bool.not_eq_false', Bool.or_eq_false_iff, Bool.not_not, decide_eq_false_iff_not]); (try intro hh); (repeat' apply And.intro) <;> (first | omega | (simp only [inR]; omega) | assumption | exact ⟨by omega, ⟨by omega, by omega⟩, by assumption⟩ | exact ⟨by omega, by assumption⟩ | exact hfindj (by omega) | exact hfind (by omega) | exact ⟨by omega, hfind (by omega)⟩ | exact hh.1 | exact hh.2 | exact hh.2.1 | exact hh.2.2 | exact hh.1.1 | exact hh.1.2 | (intro hq; exact ⟨hh, hq⟩) | (intro hq; exact ⟨hh.1, hq⟩) | (simp_all; done)))))
  refine hK3 _ ?_
  clear hK3
  refine W_cond (b := _) rfl (fun hc4 => ?_) (fun hc4 => ?_)
  · try simp only [decide_eq_true_eq, decide_eq_false_iff_not, ne_eq, Decidable.not_not, Bool.not_eq_true', Bool.not_eq_false', Bool.or_eq_true, Bool.and_eq_true, Bool.or_eq_false_iff, Bool.and_eq_false_iff] at hc4
    refine W_seq (fun K5 hK5 => ?_)
    refine W_region hT hG [] [6] ?_
    rw [hnt]
    simp only [baseS, eq_self, implies_true, if_true, if_false, reduceIte, Nat.reduceBEq, Nat.reduceEqDiff, Nat.reduceLT, Nat.reduceAdd, reduceCtorEq, tyInt, tdInt, tyHull, tdHull, tyBoxes, tdBoxes, tyInts, tdInts, c_impl_PlanValid, c_impl_Hull_tier, c_impl_portAt]
    repeat (refine And.intro ?_ ?_; focus (first | exact ordP (by kernel_rfl) | with_reducible exact rfl | assumption | trivial | (simp only [inR]; omega) | omega | exact ⟨by omega, by omega⟩ | exact ⟨by omega, by omega, by omega⟩ | exact ⟨by omega, ⟨by omega, by omega⟩, by assumption⟩ | exact ⟨by omega, by assumption⟩ | exact hfindj (by omega) | exact hfind (by omega) | exact ⟨by omega, hfind (by omega)⟩ | ((try simp only [decide_eq_true_eq, Bool.and_eq_true, ne_eq, decide_not, Bool.not_eq_true', Bool.not_eq_false', Bool.or_eq_false_iff, Bool.not_not, decide_eq_false_iff_not]); (try intro hh); (repeat' apply And.intro) <;> (first | omega | (simp only [inR]; omega) | assumption | exact ⟨by omega, ⟨by omega, by omega⟩, by assumption⟩ | exact ⟨by omega, by assumption⟩ | exact hfindj (by omega) | exact hfind (by omega) | exact ⟨by omega, hfind (by omega)⟩ | exact hh.1 | exact hh.2 | exact hh.2.1 | exact hh.2.2 | exact hh.1.1 | exact hh.1.2 | (intro hq; exact ⟨hh, hq⟩) | (intro hq; exact ⟨hh.1, hq⟩) | (simp_all; done)))))
    refine hK5 _ ?_
    clear hK5
    refine W_ret ?_
    simp only [thenQ, blockQ, loopQ, retQ, reduceIte, Nat.reduceEqDiff]
    refine ret0 ?_ rfl rfl (.inr rfl) rfl
    simp only [show Try.f44.results.toList = [ResultVar.tmp 6] from rfl, resAV, resL, look, Nat.reduceEqDiff, reduceIte, tyHull, tdHull, applyUps, noH, isStr, List.length_cons, List.length_nil, Nat.reduceAdd, and_self]
    all_goals (
      refine congrArg (fun x => some (AV.int x)) ?_
      first | (rw [overR, if_pos hc4, hI, show i.toNat = p.length by omega]; done) | (rw [overR, hc4]; rfl))
  · try simp only [decide_eq_true_eq, decide_eq_false_iff_not, ne_eq, Decidable.not_not, Bool.not_eq_true', Bool.not_eq_false', Bool.or_eq_true, Bool.and_eq_true, Bool.or_eq_false_iff, Bool.and_eq_false_iff] at hc4
    refine W_skip ?_
    simp only [thenQ, blockQ, loopQ, reduceIte, Nat.reduceEqDiff]
    refine hK2 _ ?_
    clear hK2
    refine W_seq (fun K6 hK6 => ?_)
    refine W_region hT hG [] [1, 2, 3, 7] ?_
    rw [hnt]
    simp only [baseS, eq_self, implies_true, if_true, if_false, reduceIte, Nat.reduceBEq, Nat.reduceEqDiff, Nat.reduceLT, Nat.reduceAdd, reduceCtorEq, tyInt, tdInt, tyHull, tdHull, tyBoxes, tdBoxes, tyInts, tdInts, c_impl_PlanValid, c_impl_Hull_tier, c_impl_portAt]
    repeat (refine And.intro ?_ ?_; focus (first | exact ordP (by kernel_rfl) | with_reducible exact rfl | assumption | trivial | (simp only [inR]; omega) | omega | exact ⟨by omega, by omega⟩ | exact ⟨by omega, by omega, by omega⟩ | exact ⟨by omega, ⟨by omega, by omega⟩, by assumption⟩ | exact ⟨by omega, by assumption⟩ | exact hfindj (by omega) | exact hfind (by omega) | exact ⟨by omega, hfind (by omega)⟩ | ((try simp only [decide_eq_true_eq, Bool.and_eq_true, ne_eq, decide_not, Bool.not_eq_true', Bool.not_eq_false', Bool.or_eq_false_iff, Bool.not_not, decide_eq_false_iff_not]); (try intro hh); (repeat' apply And.intro) <;> (first | omega | (simp only [inR]; omega) | assumption | exact ⟨by omega, ⟨by omega, by omega⟩, by assumption⟩ | exact ⟨by omega, by assumption⟩ | exact hfindj (by omega) | exact hfind (by omega) | exact ⟨by omega, hfind (by omega)⟩ | exact hh.1 | exact hh.2 | exact hh.2.1 | exact hh.2.2 | exact hh.1.1 | exact hh.1.2 | (intro hq; exact ⟨hh, hq⟩) | (intro hq; exact ⟨hh.1, hq⟩) | (simp_all; done)))))
    refine hK6 _ ?_
    clear hK6
    refine W_seq (fun K7 hK7 => ?_)
    refine W_seq (fun K8 hK8 => ?_)
    refine W_region hT hG [] [1, 2, 3, 7, 16, 17, 18] ?_
    rw [hnt]
    simp only [baseS, eq_self, implies_true, if_true, if_false, reduceIte, Nat.reduceBEq, Nat.reduceEqDiff, Nat.reduceLT, Nat.reduceAdd, reduceCtorEq, tyInt, tdInt, tyHull, tdHull, tyBoxes, tdBoxes, tyInts, tdInts, c_impl_PlanValid, c_impl_Hull_tier, c_impl_portAt]
    repeat (refine And.intro ?_ ?_; focus (first | exact ordP (by kernel_rfl) | with_reducible exact rfl | assumption | trivial | (simp only [inR]; omega) | omega | exact ⟨by omega, by omega⟩ | exact ⟨by omega, by omega, by omega⟩ | exact ⟨by omega, ⟨by omega, by omega⟩, by assumption⟩ | exact ⟨by omega, by assumption⟩ | exact hfindj (by omega) | exact hfind (by omega) | exact ⟨by omega, hfind (by omega)⟩ | ((try simp only [decide_eq_true_eq, Bool.and_eq_true, ne_eq, decide_not, Bool.not_eq_true', Bool.not_eq_false', Bool.or_eq_false_iff, Bool.not_not, decide_eq_false_iff_not]); (try intro hh); (repeat' apply And.intro) <;> (first | omega | (simp only [inR]; omega) | assumption | exact ⟨by omega, ⟨by omega, by omega⟩, by assumption⟩ | exact ⟨by omega, by assumption⟩ | exact hfindj (by omega) | exact hfind (by omega) | exact ⟨by omega, hfind (by omega)⟩ | exact hh.1 | exact hh.2 | exact hh.2.1 | exact hh.2.2 | exact hh.1.1 | exact hh.1.2 | (intro hq; exact ⟨hh, hq⟩) | (intro hq; exact ⟨hh.1, hq⟩) | (simp_all; done)))))
    refine hK8 _ ?_
    clear hK8
    refine W_block ?_
    refine W_loop (α := Int × Int) [(1, .as), (2, .as), (3, .as), (7, .as), (16, .as), (17, .as), (18, .as)] (fun x => ⟨[(1, .rs .box bs), (2, .rs .i64 p), (3, .rp [.int b, .int r, .int t]), (7, .int x.2), (16, .rs .i64 p), (17, .int p.length), (18, .int x.1)], [], 49⟩) (fun x => 0 ≤ x.1 ∧ x.1 ≤ p.length ∧ (0 ≤ x.2 ∧ x.2 ≤ x.1) ∧ x.2 = overF t bs p x.1.toNat) (fun x => (p.length - x.1).toNat) (0, 0) ?_ ?_ ?_
    · (try simp only [hnt, hnp]); rfl
    · exact ⟨by omega, by omega, by omega, rfl⟩
    rintro ⟨i, n⟩ ⟨hi0, hi1, hn, hI⟩
    dsimp only at hi0 hi1 hn hI ⊢
    have hok := planB_ok hc4
    have hle := hok.le
    have htt := hv_t hok.ship
    have hq3 : 0 ≤ i % t := Int.emod_nonneg _ (by omega)
    have hq4 : i % t < t := Int.emod_lt_of_pos _ (by omega)
    have hfind := @PlanOK.find b r t bs p hok i.toNat
    refine W_seq (fun K10 hK10 => ?_)
    refine W_region hT hG [] [1, 2, 3, 7, 16, 17, 18, 19] ?_
    rw [hnt]
    simp only [baseS, eq_self, implies_true, if_true, if_false, reduceIte, Nat.reduceBEq, Nat.reduceEqDiff, Nat.reduceLT, Nat.reduceAdd, reduceCtorEq, tyInt, tdInt, tyHull, tdHull, tyBoxes, tdBoxes, tyInts, tdInts, c_impl_PlanValid, c_impl_Hull_tier, c_impl_portAt]
    repeat (refine And.intro ?_ ?_; focus (first | exact ordP (by kernel_rfl) | with_reducible exact rfl | assumption | trivial | (simp only [inR]; omega) | omega | exact ⟨by omega, by omega⟩ | exact ⟨by omega, by omega, by omega⟩ | exact ⟨by omega, ⟨by omega, by omega⟩, by assumption⟩ | exact ⟨by omega, by assumption⟩ | exact hfindj (by omega) | exact hfind (by omega) | exact ⟨by omega, hfind (by omega)⟩ | ((try simp only [decide_eq_true_eq, Bool.and_eq_true, ne_eq, decide_not, Bool.not_eq_true', Bool.not_eq_false', Bool.or_eq_false_iff, Bool.not_not, decide_eq_false_iff_not]); (try intro hh); (repeat' apply And.intro) <;> (first | omega | (simp only [inR]; omega) | assumption | exact ⟨by omega, ⟨by omega, by omega⟩, by assumption⟩ | exact ⟨by omega, by assumption⟩ | exact hfindj (by omega) | exact hfind (by omega) | exact ⟨by omega, hfind (by omega)⟩ | exact hh.1 | exact hh.2 | exact hh.2.1 | exact hh.2.2 | exact hh.1.1 | exact hh.1.2 | (intro hq; exact ⟨hh, hq⟩) | (intro hq; exact ⟨hh.1, hq⟩) | (simp_all; done)))))
    refine hK10 _ ?_
    clear hK10
    refine W_seq (fun K11 hK11 => ?_)
    refine W_cond (b := _) rfl (fun hc12 => ?_) (fun hc12 => ?_)
    · try simp only [decide_eq_true_eq, decide_eq_false_iff_not, ne_eq, Decidable.not_not, Bool.not_eq_true', Bool.not_eq_false', Bool.or_eq_true, Bool.and_eq_true, Bool.or_eq_false_iff, Bool.and_eq_false_iff] at hc12
      refine W_skip ?_
      simp only [thenQ, blockQ, loopQ, reduceIte, Nat.reduceEqDiff]
      refine hK11 _ ?_
      clear hK11
      refine W_seq (fun K13 hK13 => ?_)
      refine W_block ?_
      refine W_seq (fun K14 hK14 => ?_)
      refine W_region hT hG [] [1, 2, 3, 7, 8, 9, 16, 17, 18] ?_
      rw [hnt]
      simp only [baseS, eq_self, implies_true, if_true, if_false, reduceIte, Nat.reduceBEq, Nat.reduceEqDiff, Nat.reduceLT, Nat.reduceAdd, reduceCtorEq, tyInt, tdInt, tyHull, tdHull, tyBoxes, tdBoxes, tyInts, tdInts, c_impl_PlanValid, c_impl_Hull_tier, c_impl_portAt]
      repeat (refine And.intro ?_ ?_; focus (first | exact ordP (by kernel_rfl) | with_reducible exact rfl | assumption | trivial | (simp only [inR]; omega) | omega | exact ⟨by omega, by omega⟩ | exact ⟨by omega, by omega, by omega⟩ | exact ⟨by omega, ⟨by omega, by omega⟩, by assumption⟩ | exact ⟨by omega, by assumption⟩ | exact hfindj (by omega) | exact hfind (by omega) | exact ⟨by omega, hfind (by omega)⟩ | ((try simp only [decide_eq_true_eq, Bool.and_eq_true, ne_eq, decide_not, Bool.not_eq_true', Bool.not_eq_false', Bool.or_eq_false_iff, Bool.not_not, decide_eq_false_iff_not]); (try intro hh); (repeat' apply And.intro) <;> (first | omega | (simp only [inR]; omega) | assumption | exact ⟨by omega, ⟨by omega, by omega⟩, by assumption⟩ | exact ⟨by omega, by assumption⟩ | exact hfindj (by omega) | exact hfind (by omega) | exact ⟨by omega, hfind (by omega)⟩ | exact hh.1 | exact hh.2 | exact hh.2.1 | exact hh.2.2 | exact hh.1.1 | exact hh.1.2 | (intro hq; exact ⟨hh, hq⟩) | (intro hq; exact ⟨hh.1, hq⟩) | (simp_all; done)))))
      refine hK14 _ ?_
      clear hK14
      refine W_seq (fun K15 hK15 => ?_)
      refine W_seq (fun K16 hK16 => ?_)
      refine W_region hT hG [] [1, 2, 3, 7, 8, 9, 16, 17, 18, 24] ?_
      rw [hnt]
      simp only [baseS, eq_self, implies_true, if_true, if_false, reduceIte, Nat.reduceBEq, Nat.reduceEqDiff, Nat.reduceLT, Nat.reduceAdd, reduceCtorEq, tyInt, tdInt, tyHull, tdHull, tyBoxes, tdBoxes, tyInts, tdInts, c_impl_PlanValid, c_impl_Hull_tier, c_impl_portAt]
      repeat (refine And.intro ?_ ?_; focus (first | exact ordP (by kernel_rfl) | with_reducible exact rfl | assumption | trivial | (simp only [inR]; omega) | omega | exact ⟨by omega, by omega⟩ | exact ⟨by omega, by omega, by omega⟩ | exact ⟨by omega, ⟨by omega, by omega⟩, by assumption⟩ | exact ⟨by omega, by assumption⟩ | exact hfindj (by omega) | exact hfind (by omega) | exact ⟨by omega, hfind (by omega)⟩ | ((try simp only [decide_eq_true_eq, Bool.and_eq_true, ne_eq, decide_not, Bool.not_eq_true', Bool.not_eq_false', Bool.or_eq_false_iff, Bool.not_not, decide_eq_false_iff_not]); (try intro hh); (repeat' apply And.intro) <;> (first | omega | (simp only [inR]; omega) | assumption | exact ⟨by omega, ⟨by omega, by omega⟩, by assumption⟩ | exact ⟨by omega, by assumption⟩ | exact hfindj (by omega) | exact hfind (by omega) | exact ⟨by omega, hfind (by omega)⟩ | exact hh.1 | exact hh.2 | exact hh.2.1 | exact hh.2.2 | exact hh.1.1 | exact hh.1.2 | (intro hq; exact ⟨hh, hq⟩) | (intro hq; exact ⟨hh.1, hq⟩) | (simp_all; done)))))
      refine hK16 _ ?_
      clear hK16
      refine W_cond (b := _) rfl (fun hc17 => ?_) (fun hc17 => ?_)
      · try simp only [decide_eq_true_eq, decide_eq_false_iff_not, ne_eq, Decidable.not_not, Bool.not_eq_true', Bool.not_eq_false', Bool.or_eq_true, Bool.and_eq_true, Bool.or_eq_false_iff, Bool.and_eq_false_iff] at hc17
        refine W_exit ?_
        simp only [thenQ, blockQ, loopQ, reduceIte, Nat.reduceEqDiff]
        refine hK13 _ ?_
        clear hK13
        refine W_region hT hG [] [1, 2, 3, 7, 16, 17, 18] ?_
        rw [hnt]
        simp only [baseS, eq_self, implies_true, if_true, if_false, reduceIte, Nat.reduceBEq, Nat.reduceEqDiff, Nat.reduceLT, Nat.reduceAdd, reduceCtorEq, tyInt, tdInt, tyHull, tdHull, tyBoxes, tdBoxes, tyInts, tdInts, c_impl_PlanValid, c_impl_Hull_tier, c_impl_portAt]
        repeat (refine And.intro ?_ ?_; focus (first | exact ordP (by kernel_rfl) | with_reducible exact rfl | assumption | trivial | (simp only [inR]; omega) | omega | exact ⟨by omega, by omega⟩ | exact ⟨by omega, by omega, by omega⟩ | exact ⟨by omega, ⟨by omega, by omega⟩, by assumption⟩ | exact ⟨by omega, by assumption⟩ | exact hfindj (by omega) | exact hfind (by omega) | exact ⟨by omega, hfind (by omega)⟩ | ((try simp only [decide_eq_true_eq, Bool.and_eq_true, ne_eq, decide_not, Bool.not_eq_true', Bool.not_eq_false', Bool.or_eq_false_iff, Bool.not_not, decide_eq_false_iff_not]); (try intro hh); (repeat' apply And.intro) <;> (first | omega | (simp only [inR]; omega) | assumption | exact ⟨by omega, ⟨by omega, by omega⟩, by assumption⟩ | exact ⟨by omega, by assumption⟩ | exact hfindj (by omega) | exact hfind (by omega) | exact ⟨by omega, hfind (by omega)⟩ | exact hh.1 | exact hh.2 | exact hh.2.1 | exact hh.2.2 | exact hh.1.1 | exact hh.1.2 | (intro hq; exact ⟨hh, hq⟩) | (intro hq; exact ⟨hh.1, hq⟩) | (simp_all; done)))))
        first
        | (refine ⟨(i + 1, n), (by (try simp only [hnt, hnp]); rfl), ⟨by dsimp only; omega, by dsimp only; omega, by dsimp only; omega, ?_⟩, by dsimp only; omega⟩; dsimp only; rw [overF_step hi0, over_zero hc17, hI]; simp; done)
        | (refine ⟨(i + 1, n + 1), (by (try simp only [hnt, hnp]); rfl), ⟨by dsimp only; omega, by dsimp only; omega, by dsimp only; omega, ?_⟩, by dsimp only; omega⟩; dsimp only; have hlow := hok.low hi0 (by omega) hc4 hj0 hc12; rw [overF_step hi0, over_yes hi0 hlow.1 (by omega) hc4 hj0 hc12 hlow.2.1 hc17, hI]; rfl)
        | (refine ⟨(i + 1, n), (by (try simp only [hnt, hnp]); rfl), ⟨by dsimp only; omega, by dsimp only; omega, by dsimp only; omega, ?_⟩, by dsimp only; omega⟩; dsimp only; rw [overF_step hi0, over_no hi0 (by omega) hc17 hJ, hI]; simp; done)
      · try simp only [decide_eq_true_eq, decide_eq_false_iff_not, ne_eq, Decidable.not_not, Bool.not_eq_true', Bool.not_eq_false', Bool.or_eq_true, Bool.and_eq_true, Bool.or_eq_false_iff, Bool.and_eq_false_iff] at hc17
        refine W_skip ?_
        simp only [thenQ, blockQ, loopQ, reduceIte, Nat.reduceEqDiff]
        refine hK15 _ ?_
        clear hK15
        refine W_seq (fun K18 hK18 => ?_)
        refine W_region hT hG [] [1, 2, 3, 7, 8, 9, 10, 16, 17, 18] ?_
        rw [hnt]
        simp only [baseS, eq_self, implies_true, if_true, if_false, reduceIte, Nat.reduceBEq, Nat.reduceEqDiff, Nat.reduceLT, Nat.reduceAdd, reduceCtorEq, tyInt, tdInt, tyHull, tdHull, tyBoxes, tdBoxes, tyInts, tdInts, c_impl_PlanValid, c_impl_Hull_tier, c_impl_portAt]
        repeat (refine And.intro ?_ ?_; focus (first | exact ordP (by kernel_rfl) | with_reducible exact rfl | assumption | trivial | (simp only [inR]; omega) | omega | exact ⟨by omega, by omega⟩ | exact ⟨by omega, by omega, by omega⟩ | exact ⟨by omega, ⟨by omega, by omega⟩, by assumption⟩ | exact ⟨by omega, by assumption⟩ | exact hfindj (by omega) | exact hfind (by omega) | exact ⟨by omega, hfind (by omega)⟩ | ((try simp only [decide_eq_true_eq, Bool.and_eq_true, ne_eq, decide_not, Bool.not_eq_true', Bool.not_eq_false', Bool.or_eq_false_iff, Bool.not_not, decide_eq_false_iff_not]); (try intro hh); (repeat' apply And.intro) <;> (first | omega | (simp only [inR]; omega) | assumption | exact ⟨by omega, ⟨by omega, by omega⟩, by assumption⟩ | exact ⟨by omega, by assumption⟩ | exact hfindj (by omega) | exact hfind (by omega) | exact ⟨by omega, hfind (by omega)⟩ | exact hh.1 | exact hh.2 | exact hh.2.1 | exact hh.2.2 | exact hh.1.1 | exact hh.1.2 | (intro hq; exact ⟨hh, hq⟩) | (intro hq; exact ⟨hh.1, hq⟩) | (simp_all; done)))))
        refine hK18 _ ?_
        clear hK18
        refine W_block ?_
        refine W_loop (α := Int) [(1, .as), (2, .as), (3, .as), (7, .as), (8, .as), (9, .as), (10, .as), (16, .as), (17, .as), (18, .as)] (fun j => ⟨[(1, .rs .box bs), (2, .rs .i64 p), (3, .rp [.int b, .int r, .int t]), (7, .int n), (8, .int i), (9, .int (p.getD i.toNat 0)), (10, .int j), (16, .rs .i64 p), (17, .int p.length), (18, .int i)], [], 49⟩) (fun j => i - i % t ≤ j ∧ j ≤ i ∧ ∀ q : Nat, i - i % t ≤ q → (q : Int) < j → ¬ pAt bs (p.getD q 0) < pAt bs (p.getD i.toNat 0)) (fun j => (i - j).toNat) (i - i % t) ?_ ?_ ?_
        · (try simp only [hnt, hnp]); rfl
        · exact ⟨by omega, by omega, fun q h1 h2 => by omega⟩
        rintro j ⟨hj0, hj1, hJ⟩
        have hfi := hfind hc17
        have hlow := fun h => @PlanOK.low b r t bs p hok i j hi0 (by omega) hc17 hj0 h
        refine W_seq (fun K20 hK20 => ?_)
        refine W_seq (fun K21 hK21 => ?_)
        refine W_region hT hG [] [1, 2, 3, 7, 8, 9, 10, 16, 17, 18, 32] ?_
        rw [hnt]
        simp only [baseS, eq_self, implies_true, if_true, if_false, reduceIte, Nat.reduceBEq, Nat.reduceEqDiff, Nat.reduceLT, Nat.reduceAdd, reduceCtorEq, tyInt, tdInt, tyHull, tdHull, tyBoxes, tdBoxes, tyInts, tdInts, c_impl_PlanValid, c_impl_Hull_tier, c_impl_portAt]
        repeat (refine And.intro ?_ ?_; focus (first | exact ordP (by kernel_rfl) | with_reducible exact rfl | assumption | trivial | (simp only [inR]; omega) | omega | exact ⟨by omega, by omega⟩ | exact ⟨by omega, by omega, by omega⟩ | exact ⟨by omega, ⟨by omega, by omega⟩, by assumption⟩ | exact ⟨by omega, by assumption⟩ | exact hfindj (by omega) | exact hfind (by omega) | exact ⟨by omega, hfind (by omega)⟩ | ((try simp only [decide_eq_true_eq, Bool.and_eq_true, ne_eq, decide_not, Bool.not_eq_true', Bool.not_eq_false', Bool.or_eq_false_iff, Bool.not_not, decide_eq_false_iff_not]); (try intro hh); (repeat' apply And.intro) <;> (first | omega | (simp only [inR]; omega) | assumption | exact ⟨by omega, ⟨by omega, by omega⟩, by assumption⟩ | exact ⟨by omega, by assumption⟩ | exact hfindj (by omega) | exact hfind (by omega) | exact ⟨by omega, hfind (by omega)⟩ | exact hh.1 | exact hh.2 | exact hh.2.1 | exact hh.2.2 | exact hh.1.1 | exact hh.1.2 | (intro hq; exact ⟨hh, hq⟩) | (intro hq; exact ⟨hh.1, hq⟩) | (simp_all; done)))))
        refine hK21 _ ?_
        clear hK21
        refine W_cond (b := _) rfl (fun hc22 => ?_) (fun hc22 => ?_)
        · try simp only [decide_eq_true_eq, decide_eq_false_iff_not, ne_eq, Decidable.not_not, Bool.not_eq_true', Bool.not_eq_false', Bool.or_eq_true, Bool.and_eq_true, Bool.or_eq_false_iff, Bool.and_eq_false_iff] at hc22
          refine W_skip ?_
          simp only [thenQ, blockQ, loopQ, reduceIte, Nat.reduceEqDiff]
          refine hK20 _ ?_
          clear hK20
          refine W_seq (fun K23 hK23 => ?_)
          refine W_block ?_
          refine W_seq (fun K24 hK24 => ?_)
          refine W_region hT hG [] [1, 2, 3, 7, 8, 9, 10, 16, 17, 18, 44] ?_
          rw [hnt]
          have hl := hlow hc22
          have hl1 := hl.1
          have hl2 := hl.2.2
          simp only [baseS, eq_self, implies_true, if_true, if_false, reduceIte, Nat.reduceBEq, Nat.reduceEqDiff, Nat.reduceLT, Nat.reduceAdd, reduceCtorEq, tyInt, tdInt, tyHull, tdHull, tyBoxes, tdBoxes, tyInts, tdInts, c_impl_PlanValid, c_impl_Hull_tier, c_impl_portAt]
          repeat (refine And.intro ?_ ?_; focus (first | exact ordP (by kernel_rfl) | with_reducible exact rfl | assumption | trivial | (simp only [inR]; omega) | omega | exact ⟨by omega, by omega⟩ | exact ⟨by omega, by omega, by omega⟩ | exact ⟨by omega, ⟨by omega, by omega⟩, by assumption⟩ | exact ⟨by omega, by assumption⟩ | exact hfindj (by omega) | exact hfind (by omega) | exact ⟨by omega, hfind (by omega)⟩ | ((try simp only [decide_eq_true_eq, Bool.and_eq_true, ne_eq, decide_not, Bool.not_eq_true', Bool.not_eq_false', Bool.or_eq_false_iff, Bool.not_not, decide_eq_false_iff_not]); (try intro hh); (repeat' apply And.intro) <;> (first | omega | (simp only [inR]; omega) | assumption | exact ⟨by omega, ⟨by omega, by omega⟩, by assumption⟩ | exact ⟨by omega, by assumption⟩ | exact hfindj (by omega) | exact hfind (by omega) | exact ⟨by omega, hfind (by omega)⟩ | exact hh.1 | exact hh.2 | exact hh.2.1 | exact hh.2.2 | exact hh.1.1 | exact hh.1.2 | (intro hq; exact ⟨hh, hq⟩) | (intro hq; exact ⟨hh.1, hq⟩) | (simp_all; done)))))
          refine hK24 _ ?_
          clear hK24
          refine W_cond (b := _) rfl (fun hc25 => ?_) (fun hc25 => ?_)
          · try simp only [decide_eq_true_eq, decide_eq_false_iff_not, ne_eq, Decidable.not_not, Bool.not_eq_true', Bool.not_eq_false', Bool.or_eq_true, Bool.and_eq_true, Bool.or_eq_false_iff, Bool.and_eq_false_iff] at hc25
            refine W_seq (fun K26 hK26 => ?_)
            refine W_region hT hG [] [1, 2, 3, 7, 16, 17, 18] ?_
            rw [hnt]
            simp only [baseS, eq_self, implies_true, if_true, if_false, reduceIte, Nat.reduceBEq, Nat.reduceEqDiff, Nat.reduceLT, Nat.reduceAdd, reduceCtorEq, tyInt, tdInt, tyHull, tdHull, tyBoxes, tdBoxes, tyInts, tdInts, c_impl_PlanValid, c_impl_Hull_tier, c_impl_portAt]
            repeat (refine And.intro ?_ ?_; focus (first | exact ordP (by kernel_rfl) | with_reducible exact rfl | assumption | trivial | (simp only [inR]; omega) | omega | exact ⟨by omega, by omega⟩ | exact ⟨by omega, by omega, by omega⟩ | exact ⟨by omega, ⟨by omega, by omega⟩, by assumption⟩ | exact ⟨by omega, by assumption⟩ | exact hfindj (by omega) | exact hfind (by omega) | exact ⟨by omega, hfind (by omega)⟩ | ((try simp only [decide_eq_true_eq, Bool.and_eq_true, ne_eq, decide_not, Bool.not_eq_true', Bool.not_eq_false', Bool.or_eq_false_iff, Bool.not_not, decide_eq_false_iff_not]); (try intro hh); (repeat' apply And.intro) <;> (first | omega | (simp only [inR]; omega) | assumption | exact ⟨by omega, ⟨by omega, by omega⟩, by assumption⟩ | exact ⟨by omega, by assumption⟩ | exact hfindj (by omega) | exact hfind (by omega) | exact ⟨by omega, hfind (by omega)⟩ | exact hh.1 | exact hh.2 | exact hh.2.1 | exact hh.2.2 | exact hh.1.1 | exact hh.1.2 | (intro hq; exact ⟨hh, hq⟩) | (intro hq; exact ⟨hh.1, hq⟩) | (simp_all; done)))))
            refine hK26 _ ?_
            clear hK26
            refine W_exit ?_
            simp only [thenQ, blockQ, loopQ, reduceIte, Nat.reduceEqDiff]
            refine hK13 _ ?_
            clear hK13
            refine W_region hT hG [] [1, 2, 3, 7, 16, 17, 18] ?_
            rw [hnt]
            simp only [baseS, eq_self, implies_true, if_true, if_false, reduceIte, Nat.reduceBEq, Nat.reduceEqDiff, Nat.reduceLT, Nat.reduceAdd, reduceCtorEq, tyInt, tdInt, tyHull, tdHull, tyBoxes, tdBoxes, tyInts, tdInts, c_impl_PlanValid, c_impl_Hull_tier, c_impl_portAt]
            repeat (refine And.intro ?_ ?_; focus (first | exact ordP (by kernel_rfl) | with_reducible exact rfl | assumption | trivial | (simp only [inR]; omega) | omega | exact ⟨by omega, by omega⟩ | exact ⟨by omega, by omega, by omega⟩ | exact ⟨by omega, ⟨by omega, by omega⟩, by assumption⟩ | exact ⟨by omega, by assumption⟩ | exact hfindj (by omega) | exact hfind (by omega) | exact ⟨by omega, hfind (by omega)⟩ | ((try simp only [decide_eq_true_eq, Bool.and_eq_true, ne_eq, decide_not, Bool.not_eq_true', Bool.not_eq_false', Bool.or_eq_false_iff, Bool.not_not, decide_eq_false_iff_not]); (try intro hh); (repeat' apply And.intro) <;> (first | omega | (simp only [inR]; omega) | assumption | exact ⟨by omega, ⟨by omega, by omega⟩, by assumption⟩ | exact ⟨by omega, by assumption⟩ | exact hfindj (by omega) | exact hfind (by omega) | exact ⟨by omega, hfind (by omega)⟩ | exact hh.1 | exact hh.2 | exact hh.2.1 | exact hh.2.2 | exact hh.1.1 | exact hh.1.2 | (intro hq; exact ⟨hh, hq⟩) | (intro hq; exact ⟨hh.1, hq⟩) | (simp_all; done)))))
            first
            | (refine ⟨(i + 1, n), (by (try simp only [hnt, hnp]); rfl), ⟨by dsimp only; omega, by dsimp only; omega, by dsimp only; omega, ?_⟩, by dsimp only; omega⟩; dsimp only; rw [overF_step hi0, over_zero hc25, hI]; simp; done)
            | (refine ⟨(i + 1, n + 1), (by (try simp only [hnt, hnp]); rfl), ⟨by dsimp only; omega, by dsimp only; omega, by dsimp only; omega, ?_⟩, by dsimp only; omega⟩; dsimp only; have hlow := hok.low hi0 (by omega) hc17 hj0 hc22; rw [overF_step hi0, over_yes hi0 hlow.1 (by omega) hc17 hj0 hc22 hlow.2.1 hc25, hI]; rfl)
            | (refine ⟨(i + 1, n), (by (try simp only [hnt, hnp]); rfl), ⟨by dsimp only; omega, by dsimp only; omega, by dsimp only; omega, ?_⟩, by dsimp only; omega⟩; dsimp only; rw [overF_step hi0, over_no hi0 (by omega) hc25 hJ, hI]; simp; done)
          · try simp only [decide_eq_true_eq, decide_eq_false_iff_not, ne_eq, Decidable.not_not, Bool.not_eq_true', Bool.not_eq_false', Bool.or_eq_true, Bool.and_eq_true, Bool.or_eq_false_iff, Bool.and_eq_false_iff] at hc25
            refine W_skip ?_
            simp only [thenQ, blockQ, loopQ, reduceIte, Nat.reduceEqDiff]
            refine hK23 _ ?_
            clear hK23
            refine W_region hT hG [] [1, 2, 3, 7, 8, 9, 10, 16, 17, 18] ?_
            rw [hnt]
            simp only [baseS, eq_self, implies_true, if_true, if_false, reduceIte, Nat.reduceBEq, Nat.reduceEqDiff, Nat.reduceLT, Nat.reduceAdd, reduceCtorEq, tyInt, tdInt, tyHull, tdHull, tyBoxes, tdBoxes, tyInts, tdInts, c_impl_PlanValid, c_impl_Hull_tier, c_impl_portAt]
            repeat (refine And.intro ?_ ?_; focus (first | exact ordP (by kernel_rfl) | with_reducible exact rfl | assumption | trivial | (simp only [inR]; omega) | omega | exact ⟨by omega, by omega⟩ | exact ⟨by omega, by omega, by omega⟩ | exact ⟨by omega, ⟨by omega, by omega⟩, by assumption⟩ | exact ⟨by omega, by assumption⟩ | exact hfindj (by omega) | exact hfind (by omega) | exact ⟨by omega, hfind (by omega)⟩ | ((try simp only [decide_eq_true_eq, Bool.and_eq_true, ne_eq, decide_not, Bool.not_eq_true', Bool.not_eq_false', Bool.or_eq_false_iff, Bool.not_not, decide_eq_false_iff_not]); (try intro hh); (repeat' apply And.intro) <;> (first | omega | (simp only [inR]; omega) | assumption | exact ⟨by omega, ⟨by omega, by omega⟩, by assumption⟩ | exact ⟨by omega, by assumption⟩ | exact hfindj (by omega) | exact hfind (by omega) | exact ⟨by omega, hfind (by omega)⟩ | exact hh.1 | exact hh.2 | exact hh.2.1 | exact hh.2.2 | exact hh.1.1 | exact hh.1.2 | (intro hq; exact ⟨hh, hq⟩) | (intro hq; exact ⟨hh.1, hq⟩) | (simp_all; done)))))
            refine ⟨j + 1, (by (try simp only [hnt, hnp]); rfl), ⟨by omega, by omega, over_next (hlow hc22).1 hJ hc25⟩, by dsimp only; omega⟩
        · try simp only [decide_eq_true_eq, decide_eq_false_iff_not, ne_eq, Decidable.not_not, Bool.not_eq_true', Bool.not_eq_false', Bool.or_eq_true, Bool.and_eq_true, Bool.or_eq_false_iff, Bool.and_eq_false_iff] at hc22
          refine W_exit ?_
          simp only [thenQ, blockQ, loopQ, reduceIte, Nat.reduceEqDiff]
          refine hK13 _ ?_
          clear hK13
          refine W_region hT hG [] [1, 2, 3, 7, 16, 17, 18] ?_
          rw [hnt]
          simp only [baseS, eq_self, implies_true, if_true, if_false, reduceIte, Nat.reduceBEq, Nat.reduceEqDiff, Nat.reduceLT, Nat.reduceAdd, reduceCtorEq, tyInt, tdInt, tyHull, tdHull, tyBoxes, tdBoxes, tyInts, tdInts, c_impl_PlanValid, c_impl_Hull_tier, c_impl_portAt]
          repeat (refine And.intro ?_ ?_; focus (first | exact ordP (by kernel_rfl) | with_reducible exact rfl | assumption | trivial | (simp only [inR]; omega) | omega | exact ⟨by omega, by omega⟩ | exact ⟨by omega, by omega, by omega⟩ | exact ⟨by omega, ⟨by omega, by omega⟩, by assumption⟩ | exact ⟨by omega, by assumption⟩ | exact hfindj (by omega) | exact hfind (by omega) | exact ⟨by omega, hfind (by omega)⟩ | ((try simp only [decide_eq_true_eq, Bool.and_eq_true, ne_eq, decide_not, Bool.not_eq_true', Bool.not_eq_false', Bool.or_eq_false_iff, Bool.not_not, decide_eq_false_iff_not]); (try intro hh); (repeat' apply And.intro) <;> (first | omega | (simp only [inR]; omega) | assumption | exact ⟨by omega, ⟨by omega, by omega⟩, by assumption⟩ | exact ⟨by omega, by assumption⟩ | exact hfindj (by omega) | exact hfind (by omega) | exact ⟨by omega, hfind (by omega)⟩ | exact hh.1 | exact hh.2 | exact hh.2.1 | exact hh.2.2 | exact hh.1.1 | exact hh.1.2 | (intro hq; exact ⟨hh, hq⟩) | (intro hq; exact ⟨hh.1, hq⟩) | (simp_all; done)))))
          first
          | (refine ⟨(i + 1, n), (by (try simp only [hnt, hnp]); rfl), ⟨by dsimp only; omega, by dsimp only; omega, by dsimp only; omega, ?_⟩, by dsimp only; omega⟩; dsimp only; rw [overF_step hi0, over_zero hc22, hI]; simp; done)
          | (refine ⟨(i + 1, n + 1), (by (try simp only [hnt, hnp]); rfl), ⟨by dsimp only; omega, by dsimp only; omega, by dsimp only; omega, ?_⟩, by dsimp only; omega⟩; dsimp only; have hlow := hok.low hi0 (by omega) hc12 hj0 hc17; rw [overF_step hi0, over_yes hi0 hlow.1 (by omega) hc12 hj0 hc17 hlow.2.1 hc22, hI]; rfl)
          | (refine ⟨(i + 1, n), (by (try simp only [hnt, hnp]); rfl), ⟨by dsimp only; omega, by dsimp only; omega, by dsimp only; omega, ?_⟩, by dsimp only; omega⟩; dsimp only; rw [overF_step hi0, over_no hi0 (by omega) hc22 hJ, hI]; simp; done)
    · try simp only [decide_eq_true_eq, decide_eq_false_iff_not, ne_eq, Decidable.not_not, Bool.not_eq_true', Bool.not_eq_false', Bool.or_eq_true, Bool.and_eq_true, Bool.or_eq_false_iff, Bool.and_eq_false_iff] at hc12
      refine W_exit ?_
      simp only [thenQ, blockQ, loopQ, reduceIte, Nat.reduceEqDiff]
      refine hK7 _ ?_
      clear hK7
      refine W_seq (fun K27 hK27 => ?_)
      refine W_region hT hG [] [6] ?_
      rw [hnt]
      simp only [baseS, eq_self, implies_true, if_true, if_false, reduceIte, Nat.reduceBEq, Nat.reduceEqDiff, Nat.reduceLT, Nat.reduceAdd, reduceCtorEq, tyInt, tdInt, tyHull, tdHull, tyBoxes, tdBoxes, tyInts, tdInts, c_impl_PlanValid, c_impl_Hull_tier, c_impl_portAt]
      repeat (refine And.intro ?_ ?_; focus (first | exact ordP (by kernel_rfl) | with_reducible exact rfl | assumption | trivial | (simp only [inR]; omega) | omega | exact ⟨by omega, by omega⟩ | exact ⟨by omega, by omega, by omega⟩ | exact ⟨by omega, ⟨by omega, by omega⟩, by assumption⟩ | exact ⟨by omega, by assumption⟩ | exact hfindj (by omega) | exact hfind (by omega) | exact ⟨by omega, hfind (by omega)⟩ | ((try simp only [decide_eq_true_eq, Bool.and_eq_true, ne_eq, decide_not, Bool.not_eq_true', Bool.not_eq_false', Bool.or_eq_false_iff, Bool.not_not, decide_eq_false_iff_not]); (try intro hh); (repeat' apply And.intro) <;> (first | omega | (simp only [inR]; omega) | assumption | exact ⟨by omega, ⟨by omega, by omega⟩, by assumption⟩ | exact ⟨by omega, by assumption⟩ | exact hfindj (by omega) | exact hfind (by omega) | exact ⟨by omega, hfind (by omega)⟩ | exact hh.1 | exact hh.2 | exact hh.2.1 | exact hh.2.2 | exact hh.1.1 | exact hh.1.2 | (intro hq; exact ⟨hh, hq⟩) | (intro hq; exact ⟨hh.1, hq⟩) | (simp_all; done)))))
      refine hK27 _ ?_
      clear hK27
      refine W_ret ?_
      simp only [thenQ, blockQ, loopQ, retQ, reduceIte, Nat.reduceEqDiff]
      refine ret0 ?_ rfl rfl (.inr rfl) rfl
      simp only [show Try.f44.results.toList = [ResultVar.tmp 6] from rfl, resAV, resL, look, Nat.reduceEqDiff, reduceIte, tyHull, tdHull, applyUps, noH, isStr, List.length_cons, List.length_nil, Nat.reduceAdd, and_self]
      all_goals (
        refine congrArg (fun x => some (AV.int x)) ?_
        first | (rw [overR, if_pos hc4, hI, show i.toNat = p.length by omega]; done) | (rw [overR, hc12]; rfl))

end Go.Proofs.Ytjkghldkemoddaa
