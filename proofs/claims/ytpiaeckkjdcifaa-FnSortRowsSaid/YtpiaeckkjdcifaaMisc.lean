/- Walks over lighter boxes, boxes left over, plans with a further box, and orders of loading. No condition. -/
import Derived.Test.YtpiaeckkjdcifaaLoadA
namespace Go.Proofs.Ytpiaeckkjdcifaa
open Go
set_option linter.unusedVariables false
set_option linter.unusedSimpArgs false

/-- A box that is heavier than the one below it. -/
def ligB (t : Int) (bs : List BoxD) (p : List Int) (k : Nat) : Bool := decide (0 < (k : Int) % t) && decide (wAt bs (p.getD (k - 1) 0) < wAt bs (p.getD k 0))
def ligR (b r t : Int) (bs : List BoxD) (p : List Int) : List Int := if planB b r t bs p = true then selTo (ligB t bs p) p.length else []
theorem lig_eq {t i : Int} {bs : List BoxD} {p : List Int} (h : 0 ≤ i) : ligB t bs p i.toNat = (decide (0 < i % t) && decide (wAt bs (p.getD (i - 1).toNat 0) < wAt bs (p.getD i.toNat 0))) := by
  have e : i.toNat - 1 = (i - 1).toNat := by omega
  rw [ligB, Int.toNat_of_nonneg h, e]
theorem lig_yes {t i : Int} {bs : List BoxD} {p : List Int} (h : 0 ≤ i) (h1 : 0 < i % t ∧ wAt bs (p.getD (i - 1).toNat 0) < wAt bs (p.getD i.toNat 0)) : ligB t bs p i.toNat = true := by
  rw [lig_eq h, decide_eq_true h1.1, decide_eq_true h1.2]; rfl
theorem lig_no {t i : Int} {bs : List BoxD} {p : List Int} (h : 0 ≤ i) (h1 : ¬ 0 < i % t ∨ ¬ wAt bs (p.getD (i - 1).toNat 0) < wAt bs (p.getD i.toNat 0)) : ligB t bs p i.toNat = false := by
  rw [lig_eq h]
  rcases h1 with h1 | h1
  · rw [decide_eq_false h1, Bool.false_and]
  · rw [decide_eq_false h1, Bool.and_false]
theorem lig_bel {t i x : Int} {bs : List BoxD} {p : List Int} (hx : x = if 0 < i % t then i - 1 else -1) (h : 0 ≤ i) (h1 : (0 ≤ x ∧ ¬ p.getD i.toNat 0 = 0) ∧ wAt bs (p.getD x.toNat 0) < wAt bs (p.getD i.toNat 0)) : ligB t bs p i.toNat = true := by
  by_cases h2 : 0 < i % t
  · rw [if_pos h2] at hx
    subst hx
    exact lig_yes h ⟨h2, h1.2⟩
  · rw [if_neg h2] at hx
    omega
theorem lig_nbel {t i x : Int} {bs : List BoxD} {p : List Int} (hx : x = if 0 < i % t then i - 1 else -1) (h : 0 ≤ i) (hw : ∀ k, 0 ≤ wAt bs (p.getD k 0)) (h1 : (¬ 0 ≤ x ∨ p.getD i.toNat 0 = 0) ∨ ¬ wAt bs (p.getD x.toNat 0) < wAt bs (p.getD i.toNat 0)) : ligB t bs p i.toNat = false := by
  refine lig_no h ?_
  by_cases h2 : 0 < i % t
  · right
    rw [if_pos h2] at hx
    subst hx
    have hi : i ≠ 0 := by intro e; subst e; simp at h2
    rcases h1 with (h1 | h1) | h1
    · omega
    · have e : wAt bs (p.getD i.toNat 0) = 0 := by rw [wAt, if_pos h1]
      rw [e]; have := hw (i - 1).toNat; omega
    · exact h1
  · exact .inl h2

def c_impl_OnLighter : Ctr where
  modes := [.v .p, .v (.r .box), .v (.r .i64)]
  al := false
  run := fun xs os => match xs, os with
    | [.agg [.int b, .int r, .int t], .rs .box bs, .rs .i64 p], [] => some ⟨bs.length ≤ 9223372036854775807 ∧ p.length ≤ 9223372036854775807, .sl 0, [.sl 3 .i64 (ligR b r t bs p)], []⟩
    | _, _ => none
theorem m_impl_OnLighter : Meets Try.prog 48 c_impl_OnLighter := by
  refine meets_of (T := tyT) tyOK Try.func48 (by rfl) rfl (by decide) ?_
  intro args owns R hrun hpre
  simp only [c_impl_OnLighter] at hrun
  split at hrun
  case h_2 => cases hrun
  rename_i b r t bs p
  cases hrun
  try dsimp only at hpre
  refine ⟨_, rfl, fun E hP hnt hnp => ?_⟩
  replace hnt : E.nt = 45 := hnt
  replace hnp : E.np = 3 := hnp
  have hT : ∀ t d, tyT t = some d → TyOK E.P t d := hP ▸ tyOK
  have hG : ∀ f C, Γof [(47, c_impl_PlanValid), (78, c_impl_Hull_tier), (95, c_impl_weightAt)] f = some C → Meets E.P f C := hΓof (by rw [hP]; exact ⟨m_impl_PlanValid, m_impl_Hull_tier, m_impl_weightAt, trivial⟩)
  try simp only [show Try.f48.ntmps = 45 from rfl]
  have hbs := hpre.1
  have hp := hpre.2
  refine W_seq (fun K1 hK1 => ?_)
  refine W_region hT hG [] [1, 2, 3] ?_
  rw [hnt]
  simp only [baseS, eq_self, implies_true, if_true, if_false, reduceIte, Nat.reduceBEq, Nat.reduceEqDiff, Nat.reduceLT, Nat.reduceAdd, reduceCtorEq, tyInt, tdInt, tyInts, tdInts, tyHull, tdHull, tyBoxes, tdBoxes, c_impl_PlanValid, c_impl_Hull_tier, c_impl_weightAt, decide_false, room, Nat.reduceLeDiff, Nat.zero_le, storeAV, rowQ, ownInts, FT.of, FT.setf, elems, appAV_I, appI, srcI, ownI, anyI, sameR, appAV_P, appP, srcP, ownP, anyP]
  repeat (refine And.intro ?_ ?_; focus (first | exact ordP (by kernel_rfl) | with_reducible exact rfl | assumption | trivial | (simp only [inR]; omega) | omega | exact ⟨by omega, by omega⟩ | exact ⟨by omega, by omega, by omega⟩ | exact ⟨by omega, hok.inb _⟩ | exact ⟨by omega, ⟨by omega, by omega⟩, hok.inb _⟩ | exact hok.inb _ | ((try simp only [decide_eq_true_eq, Bool.and_eq_true, ne_eq, decide_not, Bool.not_eq_true', Bool.not_eq_false', Bool.or_eq_false_iff, Bool.not_not, decide_eq_false_iff_not]); (try intro hh); (repeat' apply And.intro) <;> (first | omega | (simp only [inR]; omega) | assumption | exact ⟨by omega, hok.inb _⟩ | exact ⟨by omega, ⟨by omega, by omega⟩, hok.inb _⟩ | exact hok.inb _ | exact hh.1 | exact hh.2 | exact hh.2.1 | exact hh.2.2 | exact hh.1.1 | exact hh.1.2 | (intro hq; exact ⟨hh, hq⟩) | (intro hq; exact ⟨hh.1, hq⟩) | (simp_all; done)))))
  refine hK1 _ ?_
  clear hK1
  refine W_seq (fun K2 hK2 => ?_)
  refine W_seq (fun K3 hK3 => ?_)
  refine W_region hT hG [] [1, 2, 3, 14] ?_
  rw [hnt]
  simp only [baseS, eq_self, implies_true, if_true, if_false, reduceIte, Nat.reduceBEq, Nat.reduceEqDiff, Nat.reduceLT, Nat.reduceAdd, reduceCtorEq, tyInt, tdInt, tyInts, tdInts, tyHull, tdHull, tyBoxes, tdBoxes, c_impl_PlanValid, c_impl_Hull_tier, c_impl_weightAt, decide_false, room, Nat.reduceLeDiff, Nat.zero_le, storeAV, rowQ, ownInts, FT.of, FT.setf, elems, appAV_I, appI, srcI, ownI, anyI, sameR, appAV_P, appP, srcP, ownP, anyP]
  repeat (refine And.intro ?_ ?_; focus (first | exact ordP (by kernel_rfl) | with_reducible exact rfl | assumption | trivial | (simp only [inR]; omega) | omega | exact ⟨by omega, by omega⟩ | exact ⟨by omega, by omega, by omega⟩ | exact ⟨by omega, hok.inb _⟩ | exact ⟨by omega, ⟨by omega, by omega⟩, hok.inb _⟩ | exact hok.inb _ | ((try simp only [decide_eq_true_eq, Bool.and_eq_true, ne_eq, decide_not, Bool.not_eq_true', Bool.not_eq_false', Bool.or_eq_false_iff, Bool.not_not, decide_eq_false_iff_not]); (try intro hh); (repeat' apply And.intro) <;> (first | omega | (simp only [inR]; omega) | assumption | exact ⟨by omega, hok.inb _⟩ | exact ⟨by omega, ⟨by omega, by omega⟩, hok.inb _⟩ | exact hok.inb _ | exact hh.1 | exact hh.2 | exact hh.2.1 | exact hh.2.2 | exact hh.1.1 | exact hh.1.2 | (intro hq; exact ⟨hh, hq⟩) | (intro hq; exact ⟨hh.1, hq⟩) | (simp_all; done)))))
  refine hK3 _ ?_
  clear hK3
  refine W_cond (b := _) rfl (fun hc4 => ?_) (fun hc4 => ?_)
  · try simp only [decide_eq_true_eq, decide_eq_false_iff_not, ne_eq, Decidable.not_not, Bool.not_eq_true', Bool.not_eq_false', Bool.or_eq_true, Bool.and_eq_true, Bool.or_eq_false_iff, Bool.and_eq_false_iff] at hc4
    refine W_seq (fun K5 hK5 => ?_)
    refine W_region hT hG [] [6] ?_
    rw [hnt]
    simp only [baseS, eq_self, implies_true, if_true, if_false, reduceIte, Nat.reduceBEq, Nat.reduceEqDiff, Nat.reduceLT, Nat.reduceAdd, reduceCtorEq, tyInt, tdInt, tyInts, tdInts, tyHull, tdHull, tyBoxes, tdBoxes, c_impl_PlanValid, c_impl_Hull_tier, c_impl_weightAt, decide_false, room, Nat.reduceLeDiff, Nat.zero_le, storeAV, rowQ, ownInts, FT.of, FT.setf, elems, appAV_I, appI, srcI, ownI, anyI, sameR, appAV_P, appP, srcP, ownP, anyP]
    repeat (refine And.intro ?_ ?_; focus (first | exact ordP (by kernel_rfl) | with_reducible exact rfl | assumption | trivial | (simp only [inR]; omega) | omega | exact ⟨by omega, by omega⟩ | exact ⟨by omega, by omega, by omega⟩ | exact ⟨by omega, hok.inb _⟩ | exact ⟨by omega, ⟨by omega, by omega⟩, hok.inb _⟩ | exact hok.inb _ | ((try simp only [decide_eq_true_eq, Bool.and_eq_true, ne_eq, decide_not, Bool.not_eq_true', Bool.not_eq_false', Bool.or_eq_false_iff, Bool.not_not, decide_eq_false_iff_not]); (try intro hh); (repeat' apply And.intro) <;> (first | omega | (simp only [inR]; omega) | assumption | exact ⟨by omega, hok.inb _⟩ | exact ⟨by omega, ⟨by omega, by omega⟩, hok.inb _⟩ | exact hok.inb _ | exact hh.1 | exact hh.2 | exact hh.2.1 | exact hh.2.2 | exact hh.1.1 | exact hh.1.2 | (intro hq; exact ⟨hh, hq⟩) | (intro hq; exact ⟨hh.1, hq⟩) | (simp_all; done)))))
    refine hK5 _ ?_
    clear hK5
    refine W_re [(6, .own 3 .i64)] (by (try simp only [hnt, hnp]); rfl) ?_
    refine W_ret ?_
    simp only [thenQ, blockQ, loopQ, retQ, reduceIte, Nat.reduceEqDiff]
    refine ret1s 6 rfl rfl rfl ?_
    all_goals (
      first | (rw [ligR, if_pos hc4, hO, show i.toNat = p.length by omega]; done) | (rw [ligR, hc4]; rfl))
  · try simp only [decide_eq_true_eq, decide_eq_false_iff_not, ne_eq, Decidable.not_not, Bool.not_eq_true', Bool.not_eq_false', Bool.or_eq_true, Bool.and_eq_true, Bool.or_eq_false_iff, Bool.and_eq_false_iff] at hc4
    refine W_skip ?_
    simp only [thenQ, blockQ, loopQ, reduceIte, Nat.reduceEqDiff]
    refine hK2 _ ?_
    clear hK2
    refine W_seq (fun K6 hK6 => ?_)
    refine W_region hT hG [] [1, 2, 3, 7] ?_
    rw [hnt]
    simp only [baseS, eq_self, implies_true, if_true, if_false, reduceIte, Nat.reduceBEq, Nat.reduceEqDiff, Nat.reduceLT, Nat.reduceAdd, reduceCtorEq, tyInt, tdInt, tyInts, tdInts, tyHull, tdHull, tyBoxes, tdBoxes, c_impl_PlanValid, c_impl_Hull_tier, c_impl_weightAt, decide_false, room, Nat.reduceLeDiff, Nat.zero_le, storeAV, rowQ, ownInts, FT.of, FT.setf, elems, appAV_I, appI, srcI, ownI, anyI, sameR, appAV_P, appP, srcP, ownP, anyP]
    repeat (refine And.intro ?_ ?_; focus (first | exact ordP (by kernel_rfl) | with_reducible exact rfl | assumption | trivial | (simp only [inR]; omega) | omega | exact ⟨by omega, by omega⟩ | exact ⟨by omega, by omega, by omega⟩ | exact ⟨by omega, hok.inb _⟩ | exact ⟨by omega, ⟨by omega, by omega⟩, hok.inb _⟩ | exact hok.inb _ | ((try simp only [decide_eq_true_eq, Bool.and_eq_true, ne_eq, decide_not, Bool.not_eq_true', Bool.not_eq_false', Bool.or_eq_false_iff, Bool.not_not, decide_eq_false_iff_not]); (try intro hh); (repeat' apply And.intro) <;> (first | omega | (simp only [inR]; omega) | assumption | exact ⟨by omega, hok.inb _⟩ | exact ⟨by omega, ⟨by omega, by omega⟩, hok.inb _⟩ | exact hok.inb _ | exact hh.1 | exact hh.2 | exact hh.2.1 | exact hh.2.2 | exact hh.1.1 | exact hh.1.2 | (intro hq; exact ⟨hh, hq⟩) | (intro hq; exact ⟨hh.1, hq⟩) | (simp_all; done)))))
    refine hK6 _ ?_
    clear hK6
    refine W_seq (fun K7 hK7 => ?_)
    refine W_seq (fun K8 hK8 => ?_)
    refine W_region hT hG [] [1, 2, 3, 7, 15, 16, 17] ?_
    rw [hnt]
    simp only [baseS, eq_self, implies_true, if_true, if_false, reduceIte, Nat.reduceBEq, Nat.reduceEqDiff, Nat.reduceLT, Nat.reduceAdd, reduceCtorEq, tyInt, tdInt, tyInts, tdInts, tyHull, tdHull, tyBoxes, tdBoxes, c_impl_PlanValid, c_impl_Hull_tier, c_impl_weightAt, decide_false, room, Nat.reduceLeDiff, Nat.zero_le, storeAV, rowQ, ownInts, FT.of, FT.setf, elems, appAV_I, appI, srcI, ownI, anyI, sameR, appAV_P, appP, srcP, ownP, anyP]
    repeat (refine And.intro ?_ ?_; focus (first | exact ordP (by kernel_rfl) | with_reducible exact rfl | assumption | trivial | (simp only [inR]; omega) | omega | exact ⟨by omega, by omega⟩ | exact ⟨by omega, by omega, by omega⟩ | exact ⟨by omega, hok.inb _⟩ | exact ⟨by omega, ⟨by omega, by omega⟩, hok.inb _⟩ | exact hok.inb _ | ((try simp only [decide_eq_true_eq, Bool.and_eq_true, ne_eq, decide_not, Bool.not_eq_true', Bool.not_eq_false', Bool.or_eq_false_iff, Bool.not_not, decide_eq_false_iff_not]); (try intro hh); (repeat' apply And.intro) <;> (first | omega | (simp only [inR]; omega) | assumption | exact ⟨by omega, hok.inb _⟩ | exact ⟨by omega, ⟨by omega, by omega⟩, hok.inb _⟩ | exact hok.inb _ | exact hh.1 | exact hh.2 | exact hh.2.1 | exact hh.2.2 | exact hh.1.1 | exact hh.1.2 | (intro hq; exact ⟨hh, hq⟩) | (intro hq; exact ⟨hh.1, hq⟩) | (simp_all; done)))))
    refine hK8 _ ?_
    clear hK8
    refine W_block ?_
    refine W_loop (α := Int × List Int) [(1, .as), (2, .as), (3, .as), (7, .own 3 .i64), (15, .as), (16, .as), (17, .as)] (fun x => ⟨[(1, .rs .box bs), (2, .rs .i64 p), (3, .rp [.int b, .int r, .int t]), (7, .sl 7), (15, .rs .i64 p), (16, .int p.length), (17, .int x.1)], [(7, some (.sl 3 .i64 x.2))], 45⟩) (fun x => 0 ≤ x.1 ∧ x.1 ≤ p.length ∧ x.2 = selTo (ligB t bs p) x.1.toNat) (fun x => (p.length - x.1).toNat) (0, []) ?_ ?_ ?_
    · (try simp only [hnt, hnp]); rfl
    · exact ⟨by omega, by omega, rfl⟩
    rintro ⟨i, out⟩ ⟨hi0, hi1, hO⟩
    dsimp only at hi0 hi1 hO ⊢
    have hok := planB_ok hc4
    have hle := hok.le
    have htt := hv_t hok.ship
    have hol : out.length ≤ 36 := by rw [hO]; have := selTo_len (ligB t bs p) i.toNat; omega
    have hpos : 0 < i % t → 0 ≤ i - 1 := fun h => by
      by_cases e : i = 0
      · subst e; simp at h
      · omega
    refine W_seq (fun K10 hK10 => ?_)
    refine W_region hT hG [] [1, 2, 3, 7, 15, 16, 17, 18] ?_
    rw [hnt]
    simp only [baseS, eq_self, implies_true, if_true, if_false, reduceIte, Nat.reduceBEq, Nat.reduceEqDiff, Nat.reduceLT, Nat.reduceAdd, reduceCtorEq, tyInt, tdInt, tyInts, tdInts, tyHull, tdHull, tyBoxes, tdBoxes, c_impl_PlanValid, c_impl_Hull_tier, c_impl_weightAt, decide_false, room, Nat.reduceLeDiff, Nat.zero_le, storeAV, rowQ, ownInts, FT.of, FT.setf, elems, appAV_I, appI, srcI, ownI, anyI, sameR, appAV_P, appP, srcP, ownP, anyP]
    repeat (refine And.intro ?_ ?_; focus (first | exact ordP (by kernel_rfl) | with_reducible exact rfl | assumption | trivial | (simp only [inR]; omega) | omega | exact ⟨by omega, by omega⟩ | exact ⟨by omega, by omega, by omega⟩ | exact ⟨by omega, hok.inb _⟩ | exact ⟨by omega, ⟨by omega, by omega⟩, hok.inb _⟩ | exact hok.inb _ | ((try simp only [decide_eq_true_eq, Bool.and_eq_true, ne_eq, decide_not, Bool.not_eq_true', Bool.not_eq_false', Bool.or_eq_false_iff, Bool.not_not, decide_eq_false_iff_not]); (try intro hh); (repeat' apply And.intro) <;> (first | omega | (simp only [inR]; omega) | assumption | exact ⟨by omega, hok.inb _⟩ | exact ⟨by omega, ⟨by omega, by omega⟩, hok.inb _⟩ | exact hok.inb _ | exact hh.1 | exact hh.2 | exact hh.2.1 | exact hh.2.2 | exact hh.1.1 | exact hh.1.2 | (intro hq; exact ⟨hh, hq⟩) | (intro hq; exact ⟨hh.1, hq⟩) | (simp_all; done)))))
    refine hK10 _ ?_
    clear hK10
    refine W_seq (fun K11 hK11 => ?_)
    refine W_cond (b := _) rfl (fun hc12 => ?_) (fun hc12 => ?_)
    · try simp only [decide_eq_true_eq, decide_eq_false_iff_not, ne_eq, Decidable.not_not, Bool.not_eq_true', Bool.not_eq_false', Bool.or_eq_true, Bool.and_eq_true, Bool.or_eq_false_iff, Bool.and_eq_false_iff] at hc12
      refine W_skip ?_
      simp only [thenQ, blockQ, loopQ, reduceIte, Nat.reduceEqDiff]
      refine hK11 _ ?_
      clear hK11
      refine W_seq (fun K13 hK13 => ?_)
      refine W_block ?_
      refine W_seq (fun K14 hK14 => ?_)
      refine W_region hT hG [] [1, 2, 3, 7, 8, 9, 15, 16, 17] ?_
      rw [hnt]
      simp only [baseS, eq_self, implies_true, if_true, if_false, reduceIte, Nat.reduceBEq, Nat.reduceEqDiff, Nat.reduceLT, Nat.reduceAdd, reduceCtorEq, tyInt, tdInt, tyInts, tdInts, tyHull, tdHull, tyBoxes, tdBoxes, c_impl_PlanValid, c_impl_Hull_tier, c_impl_weightAt, decide_false, room, Nat.reduceLeDiff, Nat.zero_le, storeAV, rowQ, ownInts, FT.of, FT.setf, elems, appAV_I, appI, srcI, ownI, anyI, sameR, appAV_P, appP, srcP, ownP, anyP]
      repeat (refine And.intro ?_ ?_; focus (first | exact ordP (by kernel_rfl) | with_reducible exact rfl | assumption | trivial | (simp only [inR]; omega) | omega | exact ⟨by omega, by omega⟩ | exact ⟨by omega, by omega, by omega⟩ | exact ⟨by omega, hok.inb _⟩ | exact ⟨by omega, ⟨by omega, by omega⟩, hok.inb _⟩ | exact hok.inb _ | ((try simp only [decide_eq_true_eq, Bool.and_eq_true, ne_eq, decide_not, Bool.not_eq_true', Bool.not_eq_false', Bool.or_eq_false_iff, Bool.not_not, decide_eq_false_iff_not]); (try intro hh); (repeat' apply And.intro) <;> (first | omega | (simp only [inR]; omega) | assumption | exact ⟨by omega, hok.inb _⟩ | exact ⟨by omega, ⟨by omega, by omega⟩, hok.inb _⟩ | exact hok.inb _ | exact hh.1 | exact hh.2 | exact hh.2.1 | exact hh.2.2 | exact hh.1.1 | exact hh.1.2 | (intro hq; exact ⟨hh, hq⟩) | (intro hq; exact ⟨hh.1, hq⟩) | (simp_all; done)))))
      refine hK14 _ ?_
      clear hK14
      refine W_seq (fun K15 hK15 => ?_)
      refine W_region_draw hT hG (by rw [hP]; exact draws_ok) [] [1, 2, 3, 7, 8, 15, 16, 17, 38] ?_
      rw [hnt]
      simp only [baseS, eq_self, implies_true, if_true, if_false, reduceIte, Nat.reduceBEq, Nat.reduceEqDiff, Nat.reduceLT, Nat.reduceAdd, reduceCtorEq, tyInt, tdInt, tyInts, tdInts, tyHull, tdHull, tyBoxes, tdBoxes, c_impl_PlanValid, c_impl_Hull_tier, c_impl_weightAt, decide_false, room, Nat.reduceLeDiff, Nat.zero_le, storeAV, rowQ, ownInts, FT.of, FT.setf, elems, appAV_I, appI, srcI, ownI, anyI, sameR, appAV_P, appP, srcP, ownP, anyP]
      repeat (refine And.intro ?_ ?_; focus (first | exact ordP (by kernel_rfl) | with_reducible exact rfl | assumption | trivial | (simp only [inR]; omega) | omega | exact ⟨by omega, by omega⟩ | exact ⟨by omega, by omega, by omega⟩ | exact ⟨by omega, hok.inb _⟩ | exact ⟨by omega, ⟨by omega, by omega⟩, hok.inb _⟩ | exact hok.inb _ | ((try simp only [decide_eq_true_eq, Bool.and_eq_true, ne_eq, decide_not, Bool.not_eq_true', Bool.not_eq_false', Bool.or_eq_false_iff, Bool.not_not, decide_eq_false_iff_not]); (try intro hh); (repeat' apply And.intro) <;> (first | omega | (simp only [inR]; omega) | assumption | exact ⟨by omega, hok.inb _⟩ | exact ⟨by omega, ⟨by omega, by omega⟩, hok.inb _⟩ | exact hok.inb _ | exact hh.1 | exact hh.2 | exact hh.2.1 | exact hh.2.2 | exact hh.1.1 | exact hh.1.2 | (intro hq; exact ⟨hh, hq⟩) | (intro hq; exact ⟨hh.1, hq⟩) | (simp_all; done)))))
      refine hK15 _ ?_
      clear hK15
      refine W_cond (b := _) rfl (fun hc16 => ?_) (fun hc16 => ?_)
      · try simp only [decide_eq_true_eq, decide_eq_false_iff_not, ne_eq, Decidable.not_not, Bool.not_eq_true', Bool.not_eq_false', Bool.or_eq_true, Bool.and_eq_true, Bool.or_eq_false_iff, Bool.and_eq_false_iff] at hc16
        refine W_region hT hG [] [1, 2, 3, 7, 15, 16, 17] ?_
        rw [hnt]
        simp only [baseS, eq_self, implies_true, if_true, if_false, reduceIte, Nat.reduceBEq, Nat.reduceEqDiff, Nat.reduceLT, Nat.reduceAdd, reduceCtorEq, tyInt, tdInt, tyInts, tdInts, tyHull, tdHull, tyBoxes, tdBoxes, c_impl_PlanValid, c_impl_Hull_tier, c_impl_weightAt, decide_false, room, Nat.reduceLeDiff, Nat.zero_le, storeAV, rowQ, ownInts, FT.of, FT.setf, elems, appAV_I, appI, srcI, ownI, anyI, sameR, appAV_P, appP, srcP, ownP, anyP]
        repeat (refine And.intro ?_ ?_; focus (first | exact ordP (by kernel_rfl) | with_reducible exact rfl | assumption | trivial | (simp only [inR]; omega) | omega | exact ⟨by omega, by omega⟩ | exact ⟨by omega, by omega, by omega⟩ | exact ⟨by omega, hok.inb _⟩ | exact ⟨by omega, ⟨by omega, by omega⟩, hok.inb _⟩ | exact hok.inb _ | ((try simp only [decide_eq_true_eq, Bool.and_eq_true, ne_eq, decide_not, Bool.not_eq_true', Bool.not_eq_false', Bool.or_eq_false_iff, Bool.not_not, decide_eq_false_iff_not]); (try intro hh); (repeat' apply And.intro) <;> (first | omega | (simp only [inR]; omega) | assumption | exact ⟨by omega, hok.inb _⟩ | exact ⟨by omega, ⟨by omega, by omega⟩, hok.inb _⟩ | exact hok.inb _ | exact hh.1 | exact hh.2 | exact hh.2.1 | exact hh.2.2 | exact hh.1.1 | exact hh.1.2 | (intro hq; exact ⟨hh, hq⟩) | (intro hq; exact ⟨hh.1, hq⟩) | (simp_all; done)))))
        refine hK13 _ ?_
        clear hK13
        refine W_region hT hG [] [1, 2, 3, 7, 15, 16, 17] ?_
        rw [hnt]
        simp only [baseS, eq_self, implies_true, if_true, if_false, reduceIte, Nat.reduceBEq, Nat.reduceEqDiff, Nat.reduceLT, Nat.reduceAdd, reduceCtorEq, tyInt, tdInt, tyInts, tdInts, tyHull, tdHull, tyBoxes, tdBoxes, c_impl_PlanValid, c_impl_Hull_tier, c_impl_weightAt, decide_false, room, Nat.reduceLeDiff, Nat.zero_le, storeAV, rowQ, ownInts, FT.of, FT.setf, elems, appAV_I, appI, srcI, ownI, anyI, sameR, appAV_P, appP, srcP, ownP, anyP]
        repeat (refine And.intro ?_ ?_; focus (first | exact ordP (by kernel_rfl) | with_reducible exact rfl | assumption | trivial | (simp only [inR]; omega) | omega | exact ⟨by omega, by omega⟩ | exact ⟨by omega, by omega, by omega⟩ | exact ⟨by omega, hok.inb _⟩ | exact ⟨by omega, ⟨by omega, by omega⟩, hok.inb _⟩ | exact hok.inb _ | ((try simp only [decide_eq_true_eq, Bool.and_eq_true, ne_eq, decide_not, Bool.not_eq_true', Bool.not_eq_false', Bool.or_eq_false_iff, Bool.not_not, decide_eq_false_iff_not]); (try intro hh); (repeat' apply And.intro) <;> (first | omega | (simp only [inR]; omega) | assumption | exact ⟨by omega, hok.inb _⟩ | exact ⟨by omega, ⟨by omega, by omega⟩, hok.inb _⟩ | exact hok.inb _ | exact hh.1 | exact hh.2 | exact hh.2.1 | exact hh.2.2 | exact hh.1.1 | exact hh.1.2 | (intro hq; exact ⟨hh, hq⟩) | (intro hq; exact ⟨hh.1, hq⟩) | (simp_all; done)))))
        first
        | (refine ⟨(i + 1, out ++ [i]), (by (try simp only [hnt, hnp]); rfl), ⟨by dsimp only; omega, by dsimp only; omega, by dsimp only; rw [selTo_yes hi0 (lig_yes hi0 hc16), hO]⟩, by dsimp only; omega⟩)
        | (refine ⟨(i + 1, out), (by (try simp only [hnt, hnp]); rfl), ⟨by dsimp only; omega, by dsimp only; omega, by dsimp only; rw [selTo_no hi0 (lig_no hi0 hc16), hO]⟩, by dsimp only; omega⟩)
      · try simp only [decide_eq_true_eq, decide_eq_false_iff_not, ne_eq, Decidable.not_not, Bool.not_eq_true', Bool.not_eq_false', Bool.or_eq_true, Bool.and_eq_true, Bool.or_eq_false_iff, Bool.and_eq_false_iff] at hc16
        refine W_skip ?_
        simp only [thenQ, blockQ, loopQ, reduceIte, Nat.reduceEqDiff]
        refine hK13 _ ?_
        clear hK13
        refine W_region hT hG [] [1, 2, 3, 7, 15, 16, 17] ?_
        rw [hnt]
        simp only [baseS, eq_self, implies_true, if_true, if_false, reduceIte, Nat.reduceBEq, Nat.reduceEqDiff, Nat.reduceLT, Nat.reduceAdd, reduceCtorEq, tyInt, tdInt, tyInts, tdInts, tyHull, tdHull, tyBoxes, tdBoxes, c_impl_PlanValid, c_impl_Hull_tier, c_impl_weightAt, decide_false, room, Nat.reduceLeDiff, Nat.zero_le, storeAV, rowQ, ownInts, FT.of, FT.setf, elems, appAV_I, appI, srcI, ownI, anyI, sameR, appAV_P, appP, srcP, ownP, anyP]
        repeat (refine And.intro ?_ ?_; focus (first | exact ordP (by kernel_rfl) | with_reducible exact rfl | assumption | trivial | (simp only [inR]; omega) | omega | exact ⟨by omega, by omega⟩ | exact ⟨by omega, by omega, by omega⟩ | exact ⟨by omega, hok.inb _⟩ | exact ⟨by omega, ⟨by omega, by omega⟩, hok.inb _⟩ | exact hok.inb _ | ((try simp only [decide_eq_true_eq, Bool.and_eq_true, ne_eq, decide_not, Bool.not_eq_true', Bool.not_eq_false', Bool.or_eq_false_iff, Bool.not_not, decide_eq_false_iff_not]); (try intro hh); (repeat' apply And.intro) <;> (first | omega | (simp only [inR]; omega) | assumption | exact ⟨by omega, hok.inb _⟩ | exact ⟨by omega, ⟨by omega, by omega⟩, hok.inb _⟩ | exact hok.inb _ | exact hh.1 | exact hh.2 | exact hh.2.1 | exact hh.2.2 | exact hh.1.1 | exact hh.1.2 | (intro hq; exact ⟨hh, hq⟩) | (intro hq; exact ⟨hh.1, hq⟩) | (simp_all; done)))))
        first
        | (refine ⟨(i + 1, out ++ [i]), (by (try simp only [hnt, hnp]); rfl), ⟨by dsimp only; omega, by dsimp only; omega, by dsimp only; rw [selTo_yes hi0 (lig_yes hi0 hc16), hO]⟩, by dsimp only; omega⟩)
        | (refine ⟨(i + 1, out), (by (try simp only [hnt, hnp]); rfl), ⟨by dsimp only; omega, by dsimp only; omega, by dsimp only; rw [selTo_no hi0 (lig_no hi0 hc16), hO]⟩, by dsimp only; omega⟩)
    · try simp only [decide_eq_true_eq, decide_eq_false_iff_not, ne_eq, Decidable.not_not, Bool.not_eq_true', Bool.not_eq_false', Bool.or_eq_true, Bool.and_eq_true, Bool.or_eq_false_iff, Bool.and_eq_false_iff] at hc12
      refine W_exit ?_
      simp only [thenQ, blockQ, loopQ, reduceIte, Nat.reduceEqDiff]
      refine hK7 _ ?_
      clear hK7
      refine W_seq (fun K17 hK17 => ?_)
      refine W_region hT hG [] [6] ?_
      rw [hnt]
      simp only [baseS, eq_self, implies_true, if_true, if_false, reduceIte, Nat.reduceBEq, Nat.reduceEqDiff, Nat.reduceLT, Nat.reduceAdd, reduceCtorEq, tyInt, tdInt, tyInts, tdInts, tyHull, tdHull, tyBoxes, tdBoxes, c_impl_PlanValid, c_impl_Hull_tier, c_impl_weightAt, decide_false, room, Nat.reduceLeDiff, Nat.zero_le, storeAV, rowQ, ownInts, FT.of, FT.setf, elems, appAV_I, appI, srcI, ownI, anyI, sameR, appAV_P, appP, srcP, ownP, anyP]
      repeat (refine And.intro ?_ ?_; focus (first | exact ordP (by kernel_rfl) | with_reducible exact rfl | assumption | trivial | (simp only [inR]; omega) | omega | exact ⟨by omega, by omega⟩ | exact ⟨by omega, by omega, by omega⟩ | exact ⟨by omega, hok.inb _⟩ | exact ⟨by omega, ⟨by omega, by omega⟩, hok.inb _⟩ | exact hok.inb _ | ((try simp only [decide_eq_true_eq, Bool.and_eq_true, ne_eq, decide_not, Bool.not_eq_true', Bool.not_eq_false', Bool.or_eq_false_iff, Bool.not_not, decide_eq_false_iff_not]); (try intro hh); (repeat' apply And.intro) <;> (first | omega | (simp only [inR]; omega) | assumption | exact ⟨by omega, hok.inb _⟩ | exact ⟨by omega, ⟨by omega, by omega⟩, hok.inb _⟩ | exact hok.inb _ | exact hh.1 | exact hh.2 | exact hh.2.1 | exact hh.2.2 | exact hh.1.1 | exact hh.1.2 | (intro hq; exact ⟨hh, hq⟩) | (intro hq; exact ⟨hh.1, hq⟩) | (simp_all; done)))))
      refine hK17 _ ?_
      clear hK17
      refine W_re [(6, .own 3 .i64)] (by (try simp only [hnt, hnp]); rfl) ?_
      refine W_ret ?_
      simp only [thenQ, blockQ, loopQ, retQ, reduceIte, Nat.reduceEqDiff]
      refine ret1s 6 rfl rfl rfl ?_
      all_goals (
        first | (rw [ligR, if_pos hc4, hO, show i.toNat = p.length by omega]; done) | (rw [ligR, hc12]; rfl))

/-- The ids of the boxes that are on no slot. -/
def leftTo (bs : List BoxD) (p : List Int) : List Int := (bs.filter fun x => !decide (x.id ∈ p)).map BoxD.id
theorem left_step {bs : List BoxD} {p : List Int} {i : Int} (h0 : 0 ≤ i) (h : i < bs.length) : leftTo (bs.take (i + 1).toNat) p = if (bx bs i.toNat).id ∈ p then leftTo (bs.take i.toNat) p else leftTo (bs.take i.toNat) p ++ [(bx bs i.toNat).id] := by
  have ha : i.toNat < bs.length := by omega
  have e : (i + 1).toNat = i.toNat + 1 := by omega
  have e2 : bx bs i.toNat = bs[i.toNat] := by rw [bx, List.getD_eq_getElem?_getD, List.getElem?_eq_getElem ha]; rfl
  rw [e, List.take_add_one, List.getElem?_eq_getElem ha, Option.toList_some, leftTo, List.filter_append, List.map_append, e2, leftTo]
  by_cases hm : bs[i.toNat].id ∈ p <;> simp [hm]
theorem left_len (bs : List BoxD) (p : List Int) : (leftTo bs p).length ≤ bs.length := by
  rw [leftTo, List.length_map]; exact List.length_filter_le _ _
def leftR (b r t : Int) (bs : List BoxD) (p : List Int) : List Int := if planB b r t bs p = true then leftTo bs p else []

end Go.Proofs.Ytpiaeckkjdcifaa
