/- Walks over boxes that are looked for, taken and listed. No condition. -/
import Derived.Test.YtjkghldkemoddaaPlanX
namespace Go.Proofs.Ytjkghldkemoddaa
open Go
set_option linter.unusedVariables false
set_option linter.unusedSimpArgs false

theorem findP_no {b r t n : Int} {bs : List BoxD} {p : List Int} (h : planB b r t bs p = false ∨ n < 1) : -1 = findP b r t bs p n := by
  unfold findP; rw [if_neg]
  rintro ⟨h1, h2⟩
  rcases h with h | h
  · rw [h] at h1; cases h1
  · omega
theorem findP_no2 {b r t n : Int} {bs : List BoxD} {p : List Int} (h : ¬ 0 < n ∨ planB b r t bs p = false) : -1 = findP b r t bs p n := findP_no (h.elim (fun h => .inr (by omega)) .inl)
theorem findP_yes {b r t n : Int} {bs : List BoxD} {p : List Int} (h : planB b r t bs p = true ∧ ¬ n < 1) : idxF p n 0 = findP b r t bs p n := by
  unfold findP; rw [if_pos ⟨h.1, by omega⟩]
theorem findP_end {b r t n : Int} {bs : List BoxD} {p : List Int} (h : idxF p n 0 = -1) : -1 = findP b r t bs p n := by
  unfold findP; split
  · exact h.symm
  · rfl
def findB (bs : List BoxD) (n : Int) : Int := if boxesB bs = true then findF bs n 0 else -1

def c_impl_PlanFind : Ctr where
  modes := [.v .p, .v (.r .box), .v (.r .i64), .v .p]
  al := false
  run := fun xs os => match xs, os with
    | [.agg [.int b, .int r, .int t], .rs .box bs, .rs .i64 p, .int n], [] => some ⟨bs.length ≤ 9223372036854775807 ∧ p.length ≤ 9223372036854775807, .int (findP b r t bs p n), [], []⟩
    | _, _ => none
theorem m_impl_PlanFind : Meets Try.prog 49 c_impl_PlanFind := by
  refine meets_of (T := tyT) tyOK Try.func49 (by rfl) rfl (by decide) ?_
  intro args owns R hrun hpre
  simp only [c_impl_PlanFind] at hrun
  split at hrun
  case h_2 => cases hrun
  rename_i b r t bs p n
  cases hrun
  try dsimp only at hpre
  refine ⟨_, rfl, fun E hP hnt hnp => ?_⟩
  replace hnt : E.nt = 21 := hnt
  replace hnp : E.np = 4 := hnp
  have hT : ∀ t d, tyT t = some d → TyOK E.P t d := hP ▸ tyOK
  have hG : ∀ f C, Γof [(51, c_impl_PlanValid), (99, c_slices_Index_int_int)] f = some C → Meets E.P f C := hΓof (by rw [hP]; exact ⟨m_impl_PlanValid, m_slices_Index_int_int, trivial⟩)
  try simp only [show Try.f49.ntmps = 21 from rfl]
  have hbs := hpre.1
  have hp := hpre.2
  refine W_seq (fun K1 hK1 => ?_)
  refine W_region hT hG [] [1, 2, 3, 4] ?_
  rw [hnt]
  simp only [baseS, eq_self, implies_true, if_true, if_false, reduceIte, Nat.reduceBEq, Nat.reduceEqDiff, Nat.reduceLT, Nat.reduceAdd, reduceCtorEq, tyInt, tdInt, tyHull, tdHull, tyBoxes, tdBoxes, tyInts, tdInts, c_impl_PlanValid, c_slices_Index_int_int]
  repeat (refine And.intro ?_ ?_; focus (first | exact ordP (by kernel_rfl) | with_reducible exact rfl | assumption | trivial | (simp only [inR]; omega) | omega | exact ⟨by omega, by omega⟩ | exact ⟨by omega, by omega, by omega⟩ | ((try simp only [decide_eq_true_eq, Bool.and_eq_true, ne_eq, decide_not, Bool.not_eq_true', Bool.not_eq_false', Bool.or_eq_false_iff, Bool.not_not, decide_eq_false_iff_not]); (try intro hh); (repeat' apply And.intro) <;> (first | omega | (simp only [inR]; omega) | assumption | exact hh.1 | exact hh.2 | exact hh.2.1 | exact hh.2.2 | exact hh.1.1 | exact hh.1.2 | (intro hq; exact ⟨hh, hq⟩) | (intro hq; exact ⟨hh.1, hq⟩) | (simp_all; done)))))
  refine hK1 _ ?_
  clear hK1
  refine W_seq (fun K2 hK2 => ?_)
  refine W_seq (fun K3 hK3 => ?_)
  refine W_region hT hG [] [2, 3, 17] ?_
  rw [hnt]
  simp only [baseS, eq_self, implies_true, if_true, if_false, reduceIte, Nat.reduceBEq, Nat.reduceEqDiff, Nat.reduceLT, Nat.reduceAdd, reduceCtorEq, tyInt, tdInt, tyHull, tdHull, tyBoxes, tdBoxes, tyInts, tdInts, c_impl_PlanValid, c_slices_Index_int_int]
  repeat (refine And.intro ?_ ?_; focus (first | exact ordP (by kernel_rfl) | with_reducible exact rfl | assumption | trivial | (simp only [inR]; omega) | omega | exact ⟨by omega, by omega⟩ | exact ⟨by omega, by omega, by omega⟩ | ((try simp only [decide_eq_true_eq, Bool.and_eq_true, ne_eq, decide_not, Bool.not_eq_true', Bool.not_eq_false', Bool.or_eq_false_iff, Bool.not_not, decide_eq_false_iff_not]); (try intro hh); (repeat' apply And.intro) <;> (first | omega | (simp only [inR]; omega) | assumption | exact hh.1 | exact hh.2 | exact hh.2.1 | exact hh.2.2 | exact hh.1.1 | exact hh.1.2 | (intro hq; exact ⟨hh, hq⟩) | (intro hq; exact ⟨hh.1, hq⟩) | (simp_all; done)))))
  refine hK3 _ ?_
  clear hK3
  refine W_cond (b := _) rfl (fun hc4 => ?_) (fun hc4 => ?_)
  · try simp only [decide_eq_true_eq, decide_eq_false_iff_not, ne_eq, Decidable.not_not, Bool.not_eq_true', Bool.not_eq_false', Bool.or_eq_true, Bool.and_eq_true, Bool.or_eq_false_iff, Bool.and_eq_false_iff] at hc4
    refine W_seq (fun K5 hK5 => ?_)
    refine W_region hT hG [] [8] ?_
    rw [hnt]
    simp only [baseS, eq_self, implies_true, if_true, if_false, reduceIte, Nat.reduceBEq, Nat.reduceEqDiff, Nat.reduceLT, Nat.reduceAdd, reduceCtorEq, tyInt, tdInt, tyHull, tdHull, tyBoxes, tdBoxes, tyInts, tdInts, c_impl_PlanValid, c_slices_Index_int_int]
    repeat (refine And.intro ?_ ?_; focus (first | exact ordP (by kernel_rfl) | with_reducible exact rfl | assumption | trivial | (simp only [inR]; omega) | omega | exact ⟨by omega, by omega⟩ | exact ⟨by omega, by omega, by omega⟩ | ((try simp only [decide_eq_true_eq, Bool.and_eq_true, ne_eq, decide_not, Bool.not_eq_true', Bool.not_eq_false', Bool.or_eq_false_iff, Bool.not_not, decide_eq_false_iff_not]); (try intro hh); (repeat' apply And.intro) <;> (first | omega | (simp only [inR]; omega) | assumption | exact hh.1 | exact hh.2 | exact hh.2.1 | exact hh.2.2 | exact hh.1.1 | exact hh.1.2 | (intro hq; exact ⟨hh, hq⟩) | (intro hq; exact ⟨hh.1, hq⟩) | (simp_all; done)))))
    refine hK5 _ ?_
    clear hK5
    refine W_ret ?_
    simp only [thenQ, blockQ, loopQ, retQ, reduceIte, Nat.reduceEqDiff]
    refine ret0 ?_ rfl rfl (.inr rfl) rfl
    simp only [show Try.f49.results.toList = [ResultVar.tmp 8] from rfl, resAV, resL, look, Nat.reduceEqDiff, reduceIte, tyHull, tdHull, applyUps, noH, isStr, List.length_cons, List.length_nil, Nat.reduceAdd, and_self]
    all_goals (
      refine congrArg (fun x => some (AV.int x)) ?_
      first | exact findP_no hc4 | exact findP_yes hc4)
  · try simp only [decide_eq_true_eq, decide_eq_false_iff_not, ne_eq, Decidable.not_not, Bool.not_eq_true', Bool.not_eq_false', Bool.or_eq_true, Bool.and_eq_true, Bool.or_eq_false_iff, Bool.and_eq_false_iff] at hc4
    refine W_skip ?_
    simp only [thenQ, blockQ, loopQ, reduceIte, Nat.reduceEqDiff]
    refine hK2 _ ?_
    clear hK2
    refine W_seq (fun K6 hK6 => ?_)
    refine W_region hT hG [] [8] ?_
    rw [hnt]
    simp only [baseS, eq_self, implies_true, if_true, if_false, reduceIte, Nat.reduceBEq, Nat.reduceEqDiff, Nat.reduceLT, Nat.reduceAdd, reduceCtorEq, tyInt, tdInt, tyHull, tdHull, tyBoxes, tdBoxes, tyInts, tdInts, c_impl_PlanValid, c_slices_Index_int_int]
    repeat (refine And.intro ?_ ?_; focus (first | exact ordP (by kernel_rfl) | with_reducible exact rfl | assumption | trivial | (simp only [inR]; omega) | omega | exact ⟨by omega, by omega⟩ | exact ⟨by omega, by omega, by omega⟩ | ((try simp only [decide_eq_true_eq, Bool.and_eq_true, ne_eq, decide_not, Bool.not_eq_true', Bool.not_eq_false', Bool.or_eq_false_iff, Bool.not_not, decide_eq_false_iff_not]); (try intro hh); (repeat' apply And.intro) <;> (first | omega | (simp only [inR]; omega) | assumption | exact hh.1 | exact hh.2 | exact hh.2.1 | exact hh.2.2 | exact hh.1.1 | exact hh.1.2 | (intro hq; exact ⟨hh, hq⟩) | (intro hq; exact ⟨hh.1, hq⟩) | (simp_all; done)))))
    refine hK6 _ ?_
    clear hK6
    refine W_ret ?_
    simp only [thenQ, blockQ, loopQ, retQ, reduceIte, Nat.reduceEqDiff]
    refine ret0 ?_ rfl rfl (.inr rfl) rfl
    simp only [show Try.f49.results.toList = [ResultVar.tmp 8] from rfl, resAV, resL, look, Nat.reduceEqDiff, reduceIte, tyHull, tdHull, applyUps, noH, isStr, List.length_cons, List.length_nil, Nat.reduceAdd, and_self]
    all_goals (
      refine congrArg (fun x => some (AV.int x)) ?_
      first | exact findP_no hc4 | exact findP_yes hc4)

theorem take_no {t s : Int} {p : List Int} (h : (¬ (0 ≤ s ∧ s ≤ (p.length : Int) - 1) ∨ p.getD s.toNat 0 = 0) ∨ (s % t < t - 1 ∧ ¬ p.getD (s + 1).toNat 0 = 0)) : ¬ ((0 ≤ s ∧ s ≤ (p.length : Int) - 1) ∧ p.getD s.toNat 0 ≠ 0 ∧ ¬ (s % t < t - 1 ∧ p.getD (s + 1).toNat 0 ≠ 0)) := by
  rintro ⟨h1, h2, h3⟩
  rcases h with (h | h) | h
  · exact h h1
  · exact h2 h
  · exact h3 h
theorem take_yes {t s : Int} {p : List Int} (h : ((0 ≤ s ∧ s ≤ (p.length : Int) - 1) ∧ ¬ p.getD s.toNat 0 = 0) ∧ (¬ s % t < t - 1 ∨ p.getD (s + 1).toNat 0 = 0)) : (0 ≤ s ∧ s ≤ (p.length : Int) - 1) ∧ p.getD s.toNat 0 ≠ 0 ∧ ¬ (s % t < t - 1 ∧ p.getD (s + 1).toNat 0 ≠ 0) :=
  ⟨h.1.1, h.1.2, fun hh => h.2.elim (fun h => h hh.1) (fun h => hh.2 h)⟩
theorem top_in {b r t : Int} {bs : List BoxD} {p : List Int} (h : PlanOK b r t bs p) {s : Int} (h1 : 0 ≤ s ∧ s ≤ (p.length : Int) - 1) (h2 : s % t < t - 1) : s + 1 < p.length := by
  have ht := hv_t h.ship
  have hl := h.len
  refine Classical.byContradiction fun hn => ?_
  have e : s + 1 = b * r * t := by omega
  have := emod_succ (s := s) (t := t) (by omega) h2
  have h3 : 0 ≤ s % t := Int.emod_nonneg _ (by omega)
  rw [e, Int.mul_emod_left] at this
  omega
theorem take_iff {b r t : Int} {bs : List BoxD} {p : List Int} (h : PlanOK b r t bs p) {s : Int} (h1 : 0 ≤ s ∧ s ≤ (p.length : Int) - 1) (h2 : ¬ p.getD s.toNat 0 = 0) : planB b r t bs (p.set s.toNat 0) = true ↔ ¬ (s % t < t - 1 ∧ p.getD (s + 1).toNat 0 ≠ 0) := by
  have hs : ((s.toNat : Nat) : Int) = s := by omega
  have := take_ok h (s := s.toNat) (by omega) h2
  rw [hs, show s.toNat + 1 = (s + 1).toNat by omega] at this
  exact this

def c_impl_PlanTake : Ctr where
  modes := [.v .p, .v (.r .box), .v (.r .i64), .v .p]
  al := false
  run := fun xs os => match xs, os with
    | [.agg [.int b, .int r, .int t], .rs .box bs, .rs .i64 p, .int s], [] => some ⟨bs.length ≤ 9223372036854775807 ∧ p.length ≤ 9223372036854775807, .tup [.sl 0, .int (takeR b r t bs p s).2], [.sl 3 .i64 (takeR b r t bs p s).1], []⟩
    | _, _ => none
theorem m_impl_PlanTake : Meets Try.prog 19 c_impl_PlanTake := by
  refine meets_of (T := tyT) tyOK Try.func19 (by rfl) rfl (by decide) ?_
  intro args owns R hrun hpre
  simp only [c_impl_PlanTake] at hrun
  split at hrun
  case h_2 => cases hrun
  rename_i b r t bs p s
  cases hrun
  try dsimp only at hpre
  refine ⟨_, rfl, fun E hP hnt hnp => ?_⟩
  replace hnt : E.nt = 57 := hnt
  replace hnp : E.np = 4 := hnp
  have hT : ∀ t d, tyT t = some d → TyOK E.P t d := hP ▸ tyOK
  have hG : ∀ f C, Γof [(51, c_impl_PlanValid), (74, c_slices_Clone_int_int), (75, c_impl_within), (76, c_impl_Hull_tier)] f = some C → Meets E.P f C := hΓof (by rw [hP]; exact ⟨m_impl_PlanValid, m_slices_Clone_int_int, m_impl_within, m_impl_Hull_tier, trivial⟩)
  try simp only [show Try.f19.ntmps = 57 from rfl]
  have hbs := hpre.1
  have hp := hpre.2
  have hok0 := @planB_ok b r t bs p
  have hmod := fun (h : 1 ≤ t) => Int.emod_nonneg s (show t ≠ 0 by omega)
  have hmod2 := fun (h : 1 ≤ t) => Int.emod_lt_of_pos s (show 0 < t by omega)
  refine W_seq (fun K1 hK1 => ?_)
  refine W_region hT hG [] [1, 2, 3, 4] ?_
  rw [hnt]
  simp only [baseS, eq_self, implies_true, if_true, if_false, reduceIte, Nat.reduceBEq, Nat.reduceEqDiff, Nat.reduceLT, Nat.reduceAdd, reduceCtorEq, tyInt, tdInt, tyHull, tdHull, tyBoxes, tdBoxes, tyInts, tdInts, c_impl_PlanValid, c_slices_Clone_int_int, c_impl_within, c_impl_Hull_tier, decide_false, room, Nat.reduceLeDiff, Nat.zero_le, storeAV, rowQ, ownInts, FT.of, FT.setf, elems, appAV_I, appI, srcI, ownI, anyI, sameR, appAV_P, appP, srcP, ownP, anyP]
  repeat (refine And.intro ?_ ?_; focus (first | exact ordP (by kernel_rfl) | with_reducible exact rfl | assumption | trivial | (simp only [inR]; omega) | omega | exact ⟨by omega, by omega⟩ | exact ⟨by omega, by omega, by omega⟩ | ((try simp only [decide_eq_true_eq, Bool.and_eq_true, ne_eq, decide_not, Bool.not_eq_true', Bool.not_eq_false', Bool.or_eq_false_iff, Bool.not_not, decide_eq_false_iff_not]); (try intro hh); (repeat' apply And.intro) <;> (first | omega | (simp only [inR]; omega) | assumption | exact hh.1 | exact hh.2 | exact hh.2.1 | exact hh.2.2 | exact hh.1.1 | exact hh.1.2 | (intro hq; exact ⟨hh, hq⟩) | (intro hq; exact ⟨hh.1, hq⟩) | (simp_all; done)))))
  refine hK1 _ ?_
  clear hK1
  refine W_seq (fun K2 hK2 => ?_)
  refine W_seq (fun K3 hK3 => ?_)
  refine W_region hT hG [] [2, 3, 4, 15] ?_
  rw [hnt]
  simp only [baseS, eq_self, implies_true, if_true, if_false, reduceIte, Nat.reduceBEq, Nat.reduceEqDiff, Nat.reduceLT, Nat.reduceAdd, reduceCtorEq, tyInt, tdInt, tyHull, tdHull, tyBoxes, tdBoxes, tyInts, tdInts, c_impl_PlanValid, c_slices_Clone_int_int, c_impl_within, c_impl_Hull_tier, decide_false, room, Nat.reduceLeDiff, Nat.zero_le, storeAV, rowQ, ownInts, FT.of, FT.setf, elems, appAV_I, appI, srcI, ownI, anyI, sameR, appAV_P, appP, srcP, ownP, anyP]
  repeat (refine And.intro ?_ ?_; focus (first | exact ordP (by kernel_rfl) | with_reducible exact rfl | assumption | trivial | (simp only [inR]; omega) | omega | exact ⟨by omega, by omega⟩ | exact ⟨by omega, by omega, by omega⟩ | ((try simp only [decide_eq_true_eq, Bool.and_eq_true, ne_eq, decide_not, Bool.not_eq_true', Bool.not_eq_false', Bool.or_eq_false_iff, Bool.not_not, decide_eq_false_iff_not]); (try intro hh); (repeat' apply And.intro) <;> (first | omega | (simp only [inR]; omega) | assumption | exact hh.1 | exact hh.2 | exact hh.2.1 | exact hh.2.2 | exact hh.1.1 | exact hh.1.2 | (intro hq; exact ⟨hh, hq⟩) | (intro hq; exact ⟨hh.1, hq⟩) | (simp_all; done)))))
  refine hK3 _ ?_
  clear hK3
  refine W_cond (b := _) rfl (fun hc4 => ?_) (fun hc4 => ?_)
  · try simp only [decide_eq_true_eq, decide_eq_false_iff_not, ne_eq, Decidable.not_not, Bool.not_eq_true', Bool.not_eq_false', Bool.or_eq_true, Bool.and_eq_true, Bool.or_eq_false_iff, Bool.and_eq_false_iff] at hc4
    refine W_seq (fun K5 hK5 => ?_)
    refine W_region hT hG [] [8, 9] ?_
    rw [hnt]
    simp only [baseS, eq_self, implies_true, if_true, if_false, reduceIte, Nat.reduceBEq, Nat.reduceEqDiff, Nat.reduceLT, Nat.reduceAdd, reduceCtorEq, tyInt, tdInt, tyHull, tdHull, tyBoxes, tdBoxes, tyInts, tdInts, c_impl_PlanValid, c_slices_Clone_int_int, c_impl_within, c_impl_Hull_tier, decide_false, room, Nat.reduceLeDiff, Nat.zero_le, storeAV, rowQ, ownInts, FT.of, FT.setf, elems, appAV_I, appI, srcI, ownI, anyI, sameR, appAV_P, appP, srcP, ownP, anyP]
    repeat (refine And.intro ?_ ?_; focus (first | exact ordP (by kernel_rfl) | with_reducible exact rfl | assumption | trivial | (simp only [inR]; omega) | omega | exact ⟨by omega, by omega⟩ | exact ⟨by omega, by omega, by omega⟩ | ((try simp only [decide_eq_true_eq, Bool.and_eq_true, ne_eq, decide_not, Bool.not_eq_true', Bool.not_eq_false', Bool.or_eq_false_iff, Bool.not_not, decide_eq_false_iff_not]); (try intro hh); (repeat' apply And.intro) <;> (first | omega | (simp only [inR]; omega) | assumption | exact hh.1 | exact hh.2 | exact hh.2.1 | exact hh.2.2 | exact hh.1.1 | exact hh.1.2 | (intro hq; exact ⟨hh, hq⟩) | (intro hq; exact ⟨hh.1, hq⟩) | (simp_all; done)))))
    refine hK5 _ ?_
    clear hK5
    refine W_re [(8, .own 3 .i64), (9, .as)] (by (try simp only [hnt, hnp]); rfl) ?_
    refine W_ret ?_
    simp only [thenQ, blockQ, loopQ, retQ, reduceIte, Nat.reduceEqDiff]
    refine ret1si 8 rfl rfl rfl ?_ ?_
    all_goals (
      first
      | (rw [takeR, hc4]; rfl)
      | (rw [takeR, if_pos hc4, if_neg (take_no hc4)]; done)
      | (rw [takeR, if_pos hc4, if_pos (take_yes hc4)]; done))
  · try simp only [decide_eq_true_eq, decide_eq_false_iff_not, ne_eq, Decidable.not_not, Bool.not_eq_true', Bool.not_eq_false', Bool.or_eq_true, Bool.and_eq_true, Bool.or_eq_false_iff, Bool.and_eq_false_iff] at hc4
    refine W_skip ?_
    simp only [thenQ, blockQ, loopQ, reduceIte, Nat.reduceEqDiff]
    refine hK2 _ ?_
    clear hK2
    refine W_seq (fun K6 hK6 => ?_)
    refine W_region hT hG [] [2, 3, 4, 10] ?_
    rw [hnt]
    have hok := hok0 hc4
    have hle := hok.le
    have htt := hv_t hok.ship
    have htop := fun h1 h2 => @top_in b r t bs p hok s h1 h2
    have hm1 := hmod htt.2.2.2.2.1
    have hm2 := hmod2 htt.2.2.2.2.1
    simp only [baseS, eq_self, implies_true, if_true, if_false, reduceIte, Nat.reduceBEq, Nat.reduceEqDiff, Nat.reduceLT, Nat.reduceAdd, reduceCtorEq, tyInt, tdInt, tyHull, tdHull, tyBoxes, tdBoxes, tyInts, tdInts, c_impl_PlanValid, c_slices_Clone_int_int, c_impl_within, c_impl_Hull_tier, decide_false, room, Nat.reduceLeDiff, Nat.zero_le, storeAV, rowQ, ownInts, FT.of, FT.setf, elems, appAV_I, appI, srcI, ownI, anyI, sameR, appAV_P, appP, srcP, ownP, anyP]
    repeat (refine And.intro ?_ ?_; focus (first | exact ordP (by kernel_rfl) | with_reducible exact rfl | assumption | trivial | (simp only [inR]; omega) | omega | exact ⟨by omega, by omega⟩ | exact ⟨by omega, by omega, by omega⟩ | ((try simp only [decide_eq_true_eq, Bool.and_eq_true, ne_eq, decide_not, Bool.not_eq_true', Bool.not_eq_false', Bool.or_eq_false_iff, Bool.not_not, decide_eq_false_iff_not]); (try intro hh); (repeat' apply And.intro) <;> (first | omega | (simp only [inR]; omega) | assumption | exact hh.1 | exact hh.2 | exact hh.2.1 | exact hh.2.2 | exact hh.1.1 | exact hh.1.2 | (intro hq; exact ⟨hh, hq⟩) | (intro hq; exact ⟨hh.1, hq⟩) | (simp_all; done)))))
    refine hK6 _ ?_
    clear hK6
    refine W_seq (fun K7 hK7 => ?_)
    refine W_seq (fun K8 hK8 => ?_)
    refine W_region_draw hT hG (by rw [hP]; exact draws_ok) [] [2, 3, 10, 47] ?_
    rw [hnt]
    simp only [baseS, eq_self, implies_true, if_true, if_false, reduceIte, Nat.reduceBEq, Nat.reduceEqDiff, Nat.reduceLT, Nat.reduceAdd, reduceCtorEq, tyInt, tdInt, tyHull, tdHull, tyBoxes, tdBoxes, tyInts, tdInts, c_impl_PlanValid, c_slices_Clone_int_int, c_impl_within, c_impl_Hull_tier, decide_false, room, Nat.reduceLeDiff, Nat.zero_le, storeAV, rowQ, ownInts, FT.of, FT.setf, elems, appAV_I, appI, srcI, ownI, anyI, sameR, appAV_P, appP, srcP, ownP, anyP]
    repeat (refine And.intro ?_ ?_; focus (first | exact ordP (by kernel_rfl) | with_reducible exact rfl | trivial | (intro hh; exact ⟨by omega, by omega⟩) | (intro hh; exact ⟨⟨by omega, by omega⟩, by simp only [inR]; omega⟩) | (intro hh hh2; have hq := htop (by omega) (by omega); (repeat' apply And.intro) <;> first | omega | (simp only [inR]; omega)) | (rintro ⟨hh, hh2⟩; have hq := htop (by omega) (by omega); (repeat' apply And.intro) <;> first | omega | (simp only [inR]; omega)) | (intro hh; simp only [inR]; (repeat' apply And.intro) <;> omega) | first | exact ordP (by kernel_rfl) | with_reducible exact rfl | assumption | trivial | (simp only [inR]; omega) | omega | exact ⟨by omega, by omega⟩ | exact ⟨by omega, by omega, by omega⟩ | ((try simp only [decide_eq_true_eq, Bool.and_eq_true, ne_eq, decide_not, Bool.not_eq_true', Bool.not_eq_false', Bool.or_eq_false_iff, Bool.not_not, decide_eq_false_iff_not]); (try intro hh); (repeat' apply And.intro) <;> (first | omega | (simp only [inR]; omega) | assumption | exact hh.1 | exact hh.2 | exact hh.2.1 | exact hh.2.2 | exact hh.1.1 | exact hh.1.2 | (intro hq; exact ⟨hh, hq⟩) | (intro hq; exact ⟨hh.1, hq⟩) | (simp_all; done)))))
    refine hK8 _ ?_
    clear hK8
    refine W_cond (b := _) rfl (fun hc9 => ?_) (fun hc9 => ?_)
    · try simp only [decide_eq_true_eq, decide_eq_false_iff_not, ne_eq, Decidable.not_not, Bool.not_eq_true', Bool.not_eq_false', Bool.or_eq_true, Bool.and_eq_true, Bool.or_eq_false_iff, Bool.and_eq_false_iff] at hc9
      refine W_seq (fun K10 hK10 => ?_)
      refine W_region hT hG [] [8, 9] ?_
      rw [hnt]
      simp only [baseS, eq_self, implies_true, if_true, if_false, reduceIte, Nat.reduceBEq, Nat.reduceEqDiff, Nat.reduceLT, Nat.reduceAdd, reduceCtorEq, tyInt, tdInt, tyHull, tdHull, tyBoxes, tdBoxes, tyInts, tdInts, c_impl_PlanValid, c_slices_Clone_int_int, c_impl_within, c_impl_Hull_tier, decide_false, room, Nat.reduceLeDiff, Nat.zero_le, storeAV, rowQ, ownInts, FT.of, FT.setf, elems, appAV_I, appI, srcI, ownI, anyI, sameR, appAV_P, appP, srcP, ownP, anyP]
      repeat (refine And.intro ?_ ?_; focus (first | exact ordP (by kernel_rfl) | with_reducible exact rfl | assumption | trivial | (simp only [inR]; omega) | omega | exact ⟨by omega, by omega⟩ | exact ⟨by omega, by omega, by omega⟩ | ((try simp only [decide_eq_true_eq, Bool.and_eq_true, ne_eq, decide_not, Bool.not_eq_true', Bool.not_eq_false', Bool.or_eq_false_iff, Bool.not_not, decide_eq_false_iff_not]); (try intro hh); (repeat' apply And.intro) <;> (first | omega | (simp only [inR]; omega) | assumption | exact hh.1 | exact hh.2 | exact hh.2.1 | exact hh.2.2 | exact hh.1.1 | exact hh.1.2 | (intro hq; exact ⟨hh, hq⟩) | (intro hq; exact ⟨hh.1, hq⟩) | (simp_all; done)))))
      refine hK10 _ ?_
      clear hK10
      refine W_re [(8, .own 3 .i64), (9, .as)] (by (try simp only [hnt, hnp]); rfl) ?_
      refine W_ret ?_
      simp only [thenQ, blockQ, loopQ, retQ, reduceIte, Nat.reduceEqDiff]
      refine ret1si 8 rfl rfl rfl ?_ ?_
      all_goals (
        first
        | (rw [takeR, hc9]; rfl)
        | (rw [takeR, if_pos hc4, if_neg (take_no hc9)]; done)
        | (rw [takeR, if_pos hc4, if_pos (take_yes hc9)]; done))
    · try simp only [decide_eq_true_eq, decide_eq_false_iff_not, ne_eq, Decidable.not_not, Bool.not_eq_true', Bool.not_eq_false', Bool.or_eq_true, Bool.and_eq_true, Bool.or_eq_false_iff, Bool.and_eq_false_iff] at hc9
      refine W_skip ?_
      simp only [thenQ, blockQ, loopQ, reduceIte, Nat.reduceEqDiff]
      refine hK7 _ ?_
      clear hK7
      refine W_seq (fun K11 hK11 => ?_)
      refine W_region hT hG [] [2, 3, 10] ?_
      rw [hnt]
      simp only [baseS, eq_self, implies_true, if_true, if_false, reduceIte, Nat.reduceBEq, Nat.reduceEqDiff, Nat.reduceLT, Nat.reduceAdd, reduceCtorEq, tyInt, tdInt, tyHull, tdHull, tyBoxes, tdBoxes, tyInts, tdInts, c_impl_PlanValid, c_slices_Clone_int_int, c_impl_within, c_impl_Hull_tier, decide_false, room, Nat.reduceLeDiff, Nat.zero_le, storeAV, rowQ, ownInts, FT.of, FT.setf, elems, appAV_I, appI, srcI, ownI, anyI, sameR, appAV_P, appP, srcP, ownP, anyP]
      repeat (refine And.intro ?_ ?_; focus (first | exact ordP (by kernel_rfl) | with_reducible exact rfl | assumption | trivial | (simp only [inR]; omega) | omega | exact ⟨by omega, by omega⟩ | exact ⟨by omega, by omega, by omega⟩ | ((try simp only [decide_eq_true_eq, Bool.and_eq_true, ne_eq, decide_not, Bool.not_eq_true', Bool.not_eq_false', Bool.or_eq_false_iff, Bool.not_not, decide_eq_false_iff_not]); (try intro hh); (repeat' apply And.intro) <;> (first | omega | (simp only [inR]; omega) | assumption | exact hh.1 | exact hh.2 | exact hh.2.1 | exact hh.2.2 | exact hh.1.1 | exact hh.1.2 | (intro hq; exact ⟨hh, hq⟩) | (intro hq; exact ⟨hh.1, hq⟩) | (simp_all; done)))))
      refine hK11 _ ?_
      clear hK11
      refine W_seq (fun K12 hK12 => ?_)
      refine W_region_draw hT hG (by rw [hP]; exact draws_ok) [] [8, 9] ?_
      rw [hnt]
      simp only [baseS, eq_self, implies_true, if_true, if_false, reduceIte, Nat.reduceBEq, Nat.reduceEqDiff, Nat.reduceLT, Nat.reduceAdd, reduceCtorEq, tyInt, tdInt, tyHull, tdHull, tyBoxes, tdBoxes, tyInts, tdInts, c_impl_PlanValid, c_slices_Clone_int_int, c_impl_within, c_impl_Hull_tier, decide_false, room, Nat.reduceLeDiff, Nat.zero_le, storeAV, rowQ, ownInts, FT.of, FT.setf, elems, appAV_I, appI, srcI, ownI, anyI, sameR, appAV_P, appP, srcP, ownP, anyP]
      repeat (refine And.intro ?_ ?_; focus (first | exact ordP (by kernel_rfl) | with_reducible exact rfl | assumption | trivial | (simp only [inR]; omega) | omega | exact ⟨by omega, by omega⟩ | exact ⟨by omega, by omega, by omega⟩ | ((try simp only [decide_eq_true_eq, Bool.and_eq_true, ne_eq, decide_not, Bool.not_eq_true', Bool.not_eq_false', Bool.or_eq_false_iff, Bool.not_not, decide_eq_false_iff_not]); (try intro hh); (repeat' apply And.intro) <;> (first | omega | (simp only [inR]; omega) | assumption | exact hh.1 | exact hh.2 | exact hh.2.1 | exact hh.2.2 | exact hh.1.1 | exact hh.1.2 | (intro hq; exact ⟨hh, hq⟩) | (intro hq; exact ⟨hh.1, hq⟩) | (simp_all; done)))))
      refine hK12 _ ?_
      clear hK12
      refine W_re [(8, .own 3 .i64), (9, .as)] (by (try simp only [hnt, hnp]); rfl) ?_
      refine W_ret ?_
      simp only [thenQ, blockQ, loopQ, retQ, reduceIte, Nat.reduceEqDiff]
      refine ret1si 8 rfl rfl rfl ?_ ?_
      all_goals (
        first
        | (rw [takeR, hc9]; rfl)
        | (rw [takeR, if_pos hc4, if_neg (take_no hc9)]; done)
        | (rw [takeR, if_pos hc4, if_pos (take_yes hc9)]; done))

def c_spec_PlanTake : Ctr where
  modes := [.v .p, .v (.r .box), .v (.r .i64), .v .p]
  al := false
  run := fun xs os => match xs, os with
    | [.agg [.int b, .int r, .int t], .rs .box bs, .rs .i64 p, .int s], [] => some ⟨bs.length ≤ 9223372036854775807 ∧ p.length ≤ 9223372036854775807, .tup [.sl 0, .int (takeR b r t bs p s).2], [.sl 3 .i64 (takeR b r t bs p s).1], []⟩
    | _, _ => none
theorem m_spec_PlanTake : Meets Try.prog 31 c_spec_PlanTake := by
  refine meets_of (T := tyT) tyOK Try.func31 (by rfl) rfl (by decide) ?_
  intro args owns R hrun hpre
  simp only [c_spec_PlanTake] at hrun
  split at hrun
  case h_2 => cases hrun
  rename_i b r t bs p s
  cases hrun
  try dsimp only at hpre
  refine ⟨_, rfl, fun E hP hnt hnp => ?_⟩
  replace hnt : E.nt = 50 := hnt
  replace hnp : E.np = 4 := hnp
  have hT : ∀ t d, tyT t = some d → TyOK E.P t d := hP ▸ tyOK
  have hG : ∀ f C, Γof [(42, c_spec_PlanValid), (88, c_spec_l1In)] f = some C → Meets E.P f C := hΓof (by rw [hP]; exact ⟨m_spec_PlanValid, m_spec_l1In, trivial⟩)
  try simp only [show Try.f31.ntmps = 50 from rfl]
  have hbs := hpre.1
  have hp := hpre.2
  have hok0 := @planB_ok b r t bs p
  have hls : (p.set s.toNat 0).length = p.length := List.length_set
  refine W_seq (fun K1 hK1 => ?_)
  refine W_region hT hG [] [1, 2, 3, 4] ?_
  rw [hnt]
  simp only [baseS, eq_self, implies_true, if_true, if_false, reduceIte, Nat.reduceBEq, Nat.reduceEqDiff, Nat.reduceLT, Nat.reduceAdd, reduceCtorEq, tyInt, tdInt, tyHull, tdHull, tyBoxes, tdBoxes, tyInts, tdInts, c_spec_PlanValid, c_spec_l1In, decide_false, room, Nat.reduceLeDiff, Nat.zero_le, storeAV, rowQ, ownInts, FT.of, FT.setf, elems, appAV_I, appI, srcI, ownI, anyI, sameR, appAV_P, appP, srcP, ownP, anyP]
  repeat (refine And.intro ?_ ?_; focus (first | exact ordP (by kernel_rfl) | with_reducible exact rfl | assumption | trivial | (simp only [inR]; omega) | omega | exact ⟨by omega, by omega⟩ | exact ⟨by omega, by omega, by omega⟩ | ((try simp only [decide_eq_true_eq, Bool.and_eq_true, ne_eq, decide_not, Bool.not_eq_true', Bool.not_eq_false', Bool.or_eq_false_iff, Bool.not_not, decide_eq_false_iff_not]); (try intro hh); (repeat' apply And.intro) <;> (first | omega | (simp only [inR]; omega) | assumption | exact hh.1 | exact hh.2 | exact hh.2.1 | exact hh.2.2 | exact hh.1.1 | exact hh.1.2 | (intro hq; exact ⟨hh, hq⟩) | (intro hq; exact ⟨hh.1, hq⟩) | (simp_all; done)))))
  refine hK1 _ ?_
  clear hK1
  refine W_seq (fun K2 hK2 => ?_)
  refine W_seq (fun K3 hK3 => ?_)
  refine W_region hT hG [] [1, 2, 3, 4, 15] ?_
  rw [hnt]
  simp only [baseS, eq_self, implies_true, if_true, if_false, reduceIte, Nat.reduceBEq, Nat.reduceEqDiff, Nat.reduceLT, Nat.reduceAdd, reduceCtorEq, tyInt, tdInt, tyHull, tdHull, tyBoxes, tdBoxes, tyInts, tdInts, c_spec_PlanValid, c_spec_l1In, decide_false, room, Nat.reduceLeDiff, Nat.zero_le, storeAV, rowQ, ownInts, FT.of, FT.setf, elems, appAV_I, appI, srcI, ownI, anyI, sameR, appAV_P, appP, srcP, ownP, anyP]
  repeat (refine And.intro ?_ ?_; focus (first | exact ordP (by kernel_rfl) | with_reducible exact rfl | assumption | trivial | (simp only [inR]; omega) | omega | exact ⟨by omega, by omega⟩ | exact ⟨by omega, by omega, by omega⟩ | ((try simp only [decide_eq_true_eq, Bool.and_eq_true, ne_eq, decide_not, Bool.not_eq_true', Bool.not_eq_false', Bool.or_eq_false_iff, Bool.not_not, decide_eq_false_iff_not]); (try intro hh); (repeat' apply And.intro) <;> (first | omega | (simp only [inR]; omega) | assumption | exact hh.1 | exact hh.2 | exact hh.2.1 | exact hh.2.2 | exact hh.1.1 | exact hh.1.2 | (intro hq; exact ⟨hh, hq⟩) | (intro hq; exact ⟨hh.1, hq⟩) | (simp_all; done)))))
  refine hK3 _ ?_
  clear hK3
  refine W_cond (b := _) rfl (fun hc4 => ?_) (fun hc4 => ?_)
  · try simp only [decide_eq_true_eq, decide_eq_false_iff_not, ne_eq, Decidable.not_not, Bool.not_eq_true', Bool.not_eq_false', Bool.or_eq_true, Bool.and_eq_true, Bool.or_eq_false_iff, Bool.and_eq_false_iff] at hc4
    refine W_seq (fun K5 hK5 => ?_)
    refine W_region hT hG [] [8, 9] ?_
    rw [hnt]
    simp only [baseS, eq_self, implies_true, if_true, if_false, reduceIte, Nat.reduceBEq, Nat.reduceEqDiff, Nat.reduceLT, Nat.reduceAdd, reduceCtorEq, tyInt, tdInt, tyHull, tdHull, tyBoxes, tdBoxes, tyInts, tdInts, c_spec_PlanValid, c_spec_l1In, decide_false, room, Nat.reduceLeDiff, Nat.zero_le, storeAV, rowQ, ownInts, FT.of, FT.setf, elems, appAV_I, appI, srcI, ownI, anyI, sameR, appAV_P, appP, srcP, ownP, anyP]
    repeat (refine And.intro ?_ ?_; focus (first | exact ordP (by kernel_rfl) | with_reducible exact rfl | assumption | trivial | (simp only [inR]; omega) | omega | exact ⟨by omega, by omega⟩ | exact ⟨by omega, by omega, by omega⟩ | ((try simp only [decide_eq_true_eq, Bool.and_eq_true, ne_eq, decide_not, Bool.not_eq_true', Bool.not_eq_false', Bool.or_eq_false_iff, Bool.not_not, decide_eq_false_iff_not]); (try intro hh); (repeat' apply And.intro) <;> (first | omega | (simp only [inR]; omega) | assumption | exact hh.1 | exact hh.2 | exact hh.2.1 | exact hh.2.2 | exact hh.1.1 | exact hh.1.2 | (intro hq; exact ⟨hh, hq⟩) | (intro hq; exact ⟨hh.1, hq⟩) | (simp_all; done)))))
    refine hK5 _ ?_
    clear hK5
    refine W_re [(8, .own 3 .i64), (9, .as)] (by (try simp only [hnt, hnp]); rfl) ?_
    refine W_ret ?_
    simp only [thenQ, blockQ, loopQ, retQ, reduceIte, Nat.reduceEqDiff]
    refine ret1si 8 rfl rfl rfl ?_ ?_
    all_goals (
      first
      | (rw [takeR, hc4]; rfl)
      | (rw [takeR, if_pos hc4, if_neg (take_no (.inl hc4))]; done)
      | (rw [takeR, if_pos hc4, if_pos ⟨HCPREV.1, HCPREV.2, (take_iff hok HCPREV.1 HCPREV.2).1 hc4⟩]; done)
      | (rw [takeR, if_pos hc4, if_neg (fun hh => absurd ((take_iff hok HCPREV.1 HCPREV.2).2 hh.2.2) (by rw [hc4]; simp))]; done))
  · try simp only [decide_eq_true_eq, decide_eq_false_iff_not, ne_eq, Decidable.not_not, Bool.not_eq_true', Bool.not_eq_false', Bool.or_eq_true, Bool.and_eq_true, Bool.or_eq_false_iff, Bool.and_eq_false_iff] at hc4
    refine W_skip ?_
    simp only [thenQ, blockQ, loopQ, reduceIte, Nat.reduceEqDiff]
    refine hK2 _ ?_
    clear hK2
    refine W_seq (fun K6 hK6 => ?_)
    refine W_region hT hG [] [1, 2, 3, 4, 10] ?_
    rw [hnt]
    have hok := hok0 hc4
    have hle := hok.le
    have htt := hv_t hok.ship
    simp only [baseS, eq_self, implies_true, if_true, if_false, reduceIte, Nat.reduceBEq, Nat.reduceEqDiff, Nat.reduceLT, Nat.reduceAdd, reduceCtorEq, tyInt, tdInt, tyHull, tdHull, tyBoxes, tdBoxes, tyInts, tdInts, c_spec_PlanValid, c_spec_l1In, decide_false, room, Nat.reduceLeDiff, Nat.zero_le, storeAV, rowQ, ownInts, FT.of, FT.setf, elems, appAV_I, appI, srcI, ownI, anyI, sameR, appAV_P, appP, srcP, ownP, anyP]
    repeat (refine And.intro ?_ ?_; focus (first | exact ordP (by kernel_rfl) | with_reducible exact rfl | assumption | trivial | (simp only [inR]; omega) | omega | exact ⟨by omega, by omega⟩ | exact ⟨by omega, by omega, by omega⟩ | ((try simp only [decide_eq_true_eq, Bool.and_eq_true, ne_eq, decide_not, Bool.not_eq_true', Bool.not_eq_false', Bool.or_eq_false_iff, Bool.not_not, decide_eq_false_iff_not]); (try intro hh); (repeat' apply And.intro) <;> (first | omega | (simp only [inR]; omega) | assumption | exact hh.1 | exact hh.2 | exact hh.2.1 | exact hh.2.2 | exact hh.1.1 | exact hh.1.2 | (intro hq; exact ⟨hh, hq⟩) | (intro hq; exact ⟨hh.1, hq⟩) | (simp_all; done)))))
    refine hK6 _ ?_
    clear hK6
    refine W_seq (fun K7 hK7 => ?_)
    refine W_seq (fun K8 hK8 => ?_)
    refine W_region hT hG [] [1, 2, 3, 4, 10, 32] ?_
    rw [hnt]
    simp only [baseS, eq_self, implies_true, if_true, if_false, reduceIte, Nat.reduceBEq, Nat.reduceEqDiff, Nat.reduceLT, Nat.reduceAdd, reduceCtorEq, tyInt, tdInt, tyHull, tdHull, tyBoxes, tdBoxes, tyInts, tdInts, c_spec_PlanValid, c_spec_l1In, decide_false, room, Nat.reduceLeDiff, Nat.zero_le, storeAV, rowQ, ownInts, FT.of, FT.setf, elems, appAV_I, appI, srcI, ownI, anyI, sameR, appAV_P, appP, srcP, ownP, anyP]
    repeat (refine And.intro ?_ ?_; focus (first | exact ordP (by kernel_rfl) | with_reducible exact rfl | assumption | trivial | (simp only [inR]; omega) | omega | exact ⟨by omega, by omega⟩ | exact ⟨by omega, by omega, by omega⟩ | ((try simp only [decide_eq_true_eq, Bool.and_eq_true, ne_eq, decide_not, Bool.not_eq_true', Bool.not_eq_false', Bool.or_eq_false_iff, Bool.not_not, decide_eq_false_iff_not]); (try intro hh); (repeat' apply And.intro) <;> (first | omega | (simp only [inR]; omega) | assumption | exact hh.1 | exact hh.2 | exact hh.2.1 | exact hh.2.2 | exact hh.1.1 | exact hh.1.2 | (intro hq; exact ⟨hh, hq⟩) | (intro hq; exact ⟨hh.1, hq⟩) | (simp_all; done)))))
    refine hK8 _ ?_
    clear hK8
    refine W_cond (b := _) rfl (fun hc9 => ?_) (fun hc9 => ?_)
    · try simp only [decide_eq_true_eq, decide_eq_false_iff_not, ne_eq, Decidable.not_not, Bool.not_eq_true', Bool.not_eq_false', Bool.or_eq_true, Bool.and_eq_true, Bool.or_eq_false_iff, Bool.and_eq_false_iff] at hc9
      refine W_seq (fun K10 hK10 => ?_)
      refine W_region hT hG [] [8, 9] ?_
      rw [hnt]
      simp only [baseS, eq_self, implies_true, if_true, if_false, reduceIte, Nat.reduceBEq, Nat.reduceEqDiff, Nat.reduceLT, Nat.reduceAdd, reduceCtorEq, tyInt, tdInt, tyHull, tdHull, tyBoxes, tdBoxes, tyInts, tdInts, c_spec_PlanValid, c_spec_l1In, decide_false, room, Nat.reduceLeDiff, Nat.zero_le, storeAV, rowQ, ownInts, FT.of, FT.setf, elems, appAV_I, appI, srcI, ownI, anyI, sameR, appAV_P, appP, srcP, ownP, anyP]
      repeat (refine And.intro ?_ ?_; focus (first | exact ordP (by kernel_rfl) | with_reducible exact rfl | assumption | trivial | (simp only [inR]; omega) | omega | exact ⟨by omega, by omega⟩ | exact ⟨by omega, by omega, by omega⟩ | ((try simp only [decide_eq_true_eq, Bool.and_eq_true, ne_eq, decide_not, Bool.not_eq_true', Bool.not_eq_false', Bool.or_eq_false_iff, Bool.not_not, decide_eq_false_iff_not]); (try intro hh); (repeat' apply And.intro) <;> (first | omega | (simp only [inR]; omega) | assumption | exact hh.1 | exact hh.2 | exact hh.2.1 | exact hh.2.2 | exact hh.1.1 | exact hh.1.2 | (intro hq; exact ⟨hh, hq⟩) | (intro hq; exact ⟨hh.1, hq⟩) | (simp_all; done)))))
      refine hK10 _ ?_
      clear hK10
      refine W_re [(8, .own 3 .i64), (9, .as)] (by (try simp only [hnt, hnp]); rfl) ?_
      refine W_ret ?_
      simp only [thenQ, blockQ, loopQ, retQ, reduceIte, Nat.reduceEqDiff]
      refine ret1si 8 rfl rfl rfl ?_ ?_
      all_goals (
        first
        | (rw [takeR, hc9]; rfl)
        | (rw [takeR, if_pos hc4, if_neg (take_no (.inl hc9))]; done)
        | (rw [takeR, if_pos hc4, if_pos ⟨hc4.1, hc4.2, (take_iff hok hc4.1 hc4.2).1 hc9⟩]; done)
        | (rw [takeR, if_pos hc4, if_neg (fun hh => absurd ((take_iff hok hc4.1 hc4.2).2 hh.2.2) (by rw [hc9]; simp))]; done))
    · try simp only [decide_eq_true_eq, decide_eq_false_iff_not, ne_eq, Decidable.not_not, Bool.not_eq_true', Bool.not_eq_false', Bool.or_eq_true, Bool.and_eq_true, Bool.or_eq_false_iff, Bool.and_eq_false_iff] at hc9
      refine W_skip ?_
      simp only [thenQ, blockQ, loopQ, reduceIte, Nat.reduceEqDiff]
      refine hK7 _ ?_
      clear hK7
      refine W_seq (fun K11 hK11 => ?_)
      refine W_region hT hG [] [1, 2, 3, 4, 10] ?_
      rw [hnt]
      simp only [baseS, eq_self, implies_true, if_true, if_false, reduceIte, Nat.reduceBEq, Nat.reduceEqDiff, Nat.reduceLT, Nat.reduceAdd, reduceCtorEq, tyInt, tdInt, tyHull, tdHull, tyBoxes, tdBoxes, tyInts, tdInts, c_spec_PlanValid, c_spec_l1In, decide_false, room, Nat.reduceLeDiff, Nat.zero_le, storeAV, rowQ, ownInts, FT.of, FT.setf, elems, appAV_I, appI, srcI, ownI, anyI, sameR, appAV_P, appP, srcP, ownP, anyP]
      repeat (refine And.intro ?_ ?_; focus (first | exact ordP (by kernel_rfl) | with_reducible exact rfl | assumption | trivial | (simp only [inR]; omega) | omega | exact ⟨by omega, by omega⟩ | exact ⟨by omega, by omega, by omega⟩ | ((try simp only [decide_eq_true_eq, Bool.and_eq_true, ne_eq, decide_not, Bool.not_eq_true', Bool.not_eq_false', Bool.or_eq_false_iff, Bool.not_not, decide_eq_false_iff_not]); (try intro hh); (repeat' apply And.intro) <;> (first | omega | (simp only [inR]; omega) | assumption | exact hh.1 | exact hh.2 | exact hh.2.1 | exact hh.2.2 | exact hh.1.1 | exact hh.1.2 | (intro hq; exact ⟨hh, hq⟩) | (intro hq; exact ⟨hh.1, hq⟩) | (simp_all; done)))))
      refine hK11 _ ?_
      clear hK11
      refine W_seq (fun K12 hK12 => ?_)
      refine W_seq (fun K13 hK13 => ?_)
      refine W_region hT hG [] [2, 3, 10, 41] ?_
      rw [hnt]
      simp only [baseS, eq_self, implies_true, if_true, if_false, reduceIte, Nat.reduceBEq, Nat.reduceEqDiff, Nat.reduceLT, Nat.reduceAdd, reduceCtorEq, tyInt, tdInt, tyHull, tdHull, tyBoxes, tdBoxes, tyInts, tdInts, c_spec_PlanValid, c_spec_l1In, decide_false, room, Nat.reduceLeDiff, Nat.zero_le, storeAV, rowQ, ownInts, FT.of, FT.setf, elems, appAV_I, appI, srcI, ownI, anyI, sameR, appAV_P, appP, srcP, ownP, anyP]
      repeat (refine And.intro ?_ ?_; focus (first | exact ordP (by kernel_rfl) | with_reducible exact rfl | assumption | trivial | (simp only [inR]; omega) | omega | exact ⟨by omega, by omega⟩ | exact ⟨by omega, by omega, by omega⟩ | ((try simp only [decide_eq_true_eq, Bool.and_eq_true, ne_eq, decide_not, Bool.not_eq_true', Bool.not_eq_false', Bool.or_eq_false_iff, Bool.not_not, decide_eq_false_iff_not]); (try intro hh); (repeat' apply And.intro) <;> (first | omega | (simp only [inR]; omega) | assumption | exact hh.1 | exact hh.2 | exact hh.2.1 | exact hh.2.2 | exact hh.1.1 | exact hh.1.2 | (intro hq; exact ⟨hh, hq⟩) | (intro hq; exact ⟨hh.1, hq⟩) | (simp_all; done)))))
      refine hK13 _ ?_
      clear hK13
      refine W_cond (b := _) rfl (fun hc14 => ?_) (fun hc14 => ?_)
      · try simp only [decide_eq_true_eq, decide_eq_false_iff_not, ne_eq, Decidable.not_not, Bool.not_eq_true', Bool.not_eq_false', Bool.or_eq_true, Bool.and_eq_true, Bool.or_eq_false_iff, Bool.and_eq_false_iff] at hc14
        refine W_seq (fun K15 hK15 => ?_)
        refine W_region hT hG [] [8, 9] ?_
        rw [hnt]
        simp only [baseS, eq_self, implies_true, if_true, if_false, reduceIte, Nat.reduceBEq, Nat.reduceEqDiff, Nat.reduceLT, Nat.reduceAdd, reduceCtorEq, tyInt, tdInt, tyHull, tdHull, tyBoxes, tdBoxes, tyInts, tdInts, c_spec_PlanValid, c_spec_l1In, decide_false, room, Nat.reduceLeDiff, Nat.zero_le, storeAV, rowQ, ownInts, FT.of, FT.setf, elems, appAV_I, appI, srcI, ownI, anyI, sameR, appAV_P, appP, srcP, ownP, anyP]
        repeat (refine And.intro ?_ ?_; focus (first | exact ordP (by kernel_rfl) | with_reducible exact rfl | assumption | trivial | (simp only [inR]; omega) | omega | exact ⟨by omega, by omega⟩ | exact ⟨by omega, by omega, by omega⟩ | ((try simp only [decide_eq_true_eq, Bool.and_eq_true, ne_eq, decide_not, Bool.not_eq_true', Bool.not_eq_false', Bool.or_eq_false_iff, Bool.not_not, decide_eq_false_iff_not]); (try intro hh); (repeat' apply And.intro) <;> (first | omega | (simp only [inR]; omega) | assumption | exact hh.1 | exact hh.2 | exact hh.2.1 | exact hh.2.2 | exact hh.1.1 | exact hh.1.2 | (intro hq; exact ⟨hh, hq⟩) | (intro hq; exact ⟨hh.1, hq⟩) | (simp_all; done)))))
        refine hK15 _ ?_
        clear hK15
        refine W_re [(8, .own 3 .i64), (9, .as)] (by (try simp only [hnt, hnp]); rfl) ?_
        refine W_ret ?_
        simp only [thenQ, blockQ, loopQ, retQ, reduceIte, Nat.reduceEqDiff]
        refine ret1si 8 rfl rfl rfl ?_ ?_
        all_goals (
          first
          | (rw [takeR, hc14]; rfl)
          | (rw [takeR, if_pos hc4, if_neg (take_no (.inl hc14))]; done)
          | (rw [takeR, if_pos hc4, if_pos ⟨hc9.1, hc9.2, (take_iff hok hc9.1 hc9.2).1 hc14⟩]; done)
          | (rw [takeR, if_pos hc4, if_neg (fun hh => absurd ((take_iff hok hc9.1 hc9.2).2 hh.2.2) (by rw [hc14]; simp))]; done))
      · try simp only [decide_eq_true_eq, decide_eq_false_iff_not, ne_eq, Decidable.not_not, Bool.not_eq_true', Bool.not_eq_false', Bool.or_eq_true, Bool.and_eq_true, Bool.or_eq_false_iff, Bool.and_eq_false_iff] at hc14
        refine W_skip ?_
        simp only [thenQ, blockQ, loopQ, reduceIte, Nat.reduceEqDiff]
        refine hK12 _ ?_
        clear hK12
        refine W_seq (fun K16 hK16 => ?_)
        refine W_region_draw hT hG (by rw [hP]; exact draws_ok) [] [8, 9] ?_
        rw [hnt]
        simp only [baseS, eq_self, implies_true, if_true, if_false, reduceIte, Nat.reduceBEq, Nat.reduceEqDiff, Nat.reduceLT, Nat.reduceAdd, reduceCtorEq, tyInt, tdInt, tyHull, tdHull, tyBoxes, tdBoxes, tyInts, tdInts, c_spec_PlanValid, c_spec_l1In, decide_false, room, Nat.reduceLeDiff, Nat.zero_le, storeAV, rowQ, ownInts, FT.of, FT.setf, elems, appAV_I, appI, srcI, ownI, anyI, sameR, appAV_P, appP, srcP, ownP, anyP]
        repeat (refine And.intro ?_ ?_; focus (first | exact ordP (by kernel_rfl) | with_reducible exact rfl | assumption | trivial | (simp only [inR]; omega) | omega | exact ⟨by omega, by omega⟩ | exact ⟨by omega, by omega, by omega⟩ | ((try simp only [decide_eq_true_eq, Bool.and_eq_true, ne_eq, decide_not, Bool.not_eq_true', Bool.not_eq_false', Bool.or_eq_false_iff, Bool.not_not, decide_eq_false_iff_not]); (try intro hh); (repeat' apply And.intro) <;> (first | omega | (simp only [inR]; omega) | assumption | exact hh.1 | exact hh.2 | exact hh.2.1 | exact hh.2.2 | exact hh.1.1 | exact hh.1.2 | (intro hq; exact ⟨hh, hq⟩) | (intro hq; exact ⟨hh.1, hq⟩) | (simp_all; done)))))
        refine hK16 _ ?_
        clear hK16
        refine W_re [(8, .own 3 .i64), (9, .as)] (by (try simp only [hnt, hnp]); rfl) ?_
        refine W_ret ?_
        simp only [thenQ, blockQ, loopQ, retQ, reduceIte, Nat.reduceEqDiff]
        refine ret1si 8 rfl rfl rfl ?_ ?_
        all_goals (
          first
          | (rw [takeR, hc14]; rfl)
          | (rw [takeR, if_pos hc4, if_neg (take_no (.inl hc14))]; done)
          | (rw [takeR, if_pos hc4, if_pos ⟨hc9.1, hc9.2, (take_iff hok hc9.1 hc9.2).1 hc14⟩]; done)
          | (rw [takeR, if_pos hc4, if_neg (fun hh => absurd ((take_iff hok hc9.1 hc9.2).2 hh.2.2) (by rw [hc14]; simp))]; done))

theorem asc_bad {a : List Int} {i : Int} (h0 : 1 ≤ i) (h1 : i < a.length) (h : a.getD i.toNat 0 ≤ a.getD (i - 1).toNat 0) : false = ascB a := by
  symm
  cases hu : ascB a with
  | false => rfl
  | true =>
    exfalso
    rw [ascB, List.all_eq_true] at hu
    have := hu (i - 1).toNat (List.mem_range.2 (by omega))
    rw [decide_eq_true_eq, show (i - 1).toNat + 1 = i.toNat by omega] at this
    omega
theorem asc_end {a : List Int} {i : Int} (hI : ∀ k : Nat, (k : Int) + 1 < i → a.getD k 0 < a.getD (k + 1) 0) (h : ¬ i < a.length) : true = ascB a := by
  symm
  rw [ascB, List.all_eq_true]
  intro k hk
  have := List.mem_range.1 hk
  exact decide_eq_true (hI k (by omega))
theorem asc_next {a : List Int} {i : Int} (h0 : 1 ≤ i) (hI : ∀ k : Nat, (k : Int) + 1 < i → a.getD k 0 < a.getD (k + 1) 0) (h : ¬ a.getD i.toNat 0 ≤ a.getD (i - 1).toNat 0) : ∀ k : Nat, (k : Int) + 1 < i + 1 → a.getD k 0 < a.getD (k + 1) 0 := by
  intro k hk
  by_cases e : (k : Int) + 1 = i
  · have e1 : k = (i - 1).toNat := by omega
    have e2 : k + 1 = i.toNat := by omega
    rw [e2, e1]; omega
  · exact hI k (by omega)

def c_laws_ascend : Ctr where
  modes := [.v (.r .i64)]
  al := false
  run := fun xs os => match xs, os with
    | [.rs .i64 a], [] => some ⟨a.length ≤ 9223372036854775807, .bool (ascB a), [], []⟩
    | _, _ => none
theorem m_laws_ascend : Meets Try.prog 45 c_laws_ascend := by
  refine meets_of (T := tyT) tyOK Try.func45 (by rfl) rfl (by decide) ?_
  intro args owns R hrun hpre
  simp only [c_laws_ascend] at hrun
  split at hrun
  case h_2 => cases hrun
  rename_i a
  cases hrun
  try dsimp only at hpre
  refine ⟨_, rfl, fun E hP hnt hnp => ?_⟩
  replace hnt : E.nt = 20 := hnt
  replace hnp : E.np = 1 := hnp
  have hT : ∀ t d, tyT t = some d → TyOK E.P t d := hP ▸ tyOK
  have hG : ∀ f C, Γof [] f = some C → Meets E.P f C := hΓof (by rw [hP]; exact trivial)
  try simp only [show Try.f45.ntmps = 20 from rfl]
  refine W_seq (fun K1 hK1 => ?_)
  refine W_region hT hG [] [0] ?_
  rw [hnt]
  simp only [baseS, eq_self, implies_true, if_true, if_false, reduceIte, Nat.reduceBEq, Nat.reduceEqDiff, Nat.reduceLT, Nat.reduceAdd, reduceCtorEq, tyInt, tdInt, tyInts, tdInts]
  repeat (refine And.intro ?_ ?_; focus (first | exact ordP (by kernel_rfl) | with_reducible exact rfl | assumption | trivial | (simp only [inR]; omega) | omega | (intro hh; (try obtain ⟨hh1, hh2⟩ := hh); (repeat' apply And.intro) <;> first | assumption | (simp only [inR]; omega) | omega | (intros; (repeat' apply And.intro) <;> first | assumption | (simp only [inR]; omega) | omega)) | (intros; (repeat' apply And.intro) <;> first | assumption | (simp only [inR]; omega) | omega | (simp_all; done) | (simp_all [inR]; omega))))
  refine hK1 _ ?_
  clear hK1
  refine W_seq (fun K2 hK2 => ?_)
  refine W_seq (fun K3 hK3 => ?_)
  refine W_region hT hG [] [0, 3] ?_
  rw [hnt]
  simp only [baseS, eq_self, implies_true, if_true, if_false, reduceIte, Nat.reduceBEq, Nat.reduceEqDiff, Nat.reduceLT, Nat.reduceAdd, reduceCtorEq, tyInt, tdInt, tyInts, tdInts]
  repeat (refine And.intro ?_ ?_; focus (first | exact ordP (by kernel_rfl) | with_reducible exact rfl | assumption | trivial | (simp only [inR]; omega) | omega | (intro hh; (try obtain ⟨hh1, hh2⟩ := hh); (repeat' apply And.intro) <;> first | assumption | (simp only [inR]; omega) | omega | (intros; (repeat' apply And.intro) <;> first | assumption | (simp only [inR]; omega) | omega)) | (intros; (repeat' apply And.intro) <;> first | assumption | (simp only [inR]; omega) | omega | (simp_all; done) | (simp_all [inR]; omega))))
  refine hK3 _ ?_
  clear hK3
  refine W_block ?_
  refine W_loop (α := Int) [(0, .as), (3, .as)] (fun i => ⟨[(0, .rs .i64 a), (3, .int i)], [], 20⟩) (fun i => 1 ≤ i ∧ i ≤ max a.length 1 ∧ ∀ k : Nat, (k : Int) + 1 < i → a.getD k 0 < a.getD (k + 1) 0) (fun i => (a.length - i).toNat) 1 ?_ ?_ ?_
  · (try simp only [hnt, hnp]); rfl
  · exact ⟨by omega, by omega, fun k hk => by omega⟩
  rintro i ⟨hi0, hi1, hI⟩
  refine W_seq (fun K5 hK5 => ?_)
  refine W_seq (fun K6 hK6 => ?_)
  refine W_region hT hG [] [0, 3, 7] ?_
  rw [hnt]
  simp only [baseS, eq_self, implies_true, if_true, if_false, reduceIte, Nat.reduceBEq, Nat.reduceEqDiff, Nat.reduceLT, Nat.reduceAdd, reduceCtorEq, tyInt, tdInt, tyInts, tdInts]
  repeat (refine And.intro ?_ ?_; focus (first | exact ordP (by kernel_rfl) | with_reducible exact rfl | assumption | trivial | (simp only [inR]; omega) | omega | (intro hh; (try obtain ⟨hh1, hh2⟩ := hh); (repeat' apply And.intro) <;> first | assumption | (simp only [inR]; omega) | omega | (intros; (repeat' apply And.intro) <;> first | assumption | (simp only [inR]; omega) | omega)) | (intros; (repeat' apply And.intro) <;> first | assumption | (simp only [inR]; omega) | omega | (simp_all; done) | (simp_all [inR]; omega))))
  refine hK6 _ ?_
  clear hK6
  refine W_cond (b := _) rfl (fun hc7 => ?_) (fun hc7 => ?_)
  · try simp only [decide_eq_true_eq, decide_eq_false_iff_not, ne_eq, Decidable.not_not, Bool.not_eq_true', Bool.not_eq_false', Bool.or_eq_true, Bool.and_eq_true, Bool.or_eq_false_iff, Bool.and_eq_false_iff] at hc7
    refine W_skip ?_
    simp only [thenQ, blockQ, loopQ, reduceIte, Nat.reduceEqDiff]
    refine hK5 _ ?_
    clear hK5
    refine W_seq (fun K8 hK8 => ?_)
    refine W_block ?_
    refine W_seq (fun K9 hK9 => ?_)
    refine W_region_draw hT hG (by rw [hP]; exact draws_ok) [] [0, 3, 19] ?_
    rw [hnt]
    simp only [baseS, eq_self, implies_true, if_true, if_false, reduceIte, Nat.reduceBEq, Nat.reduceEqDiff, Nat.reduceLT, Nat.reduceAdd, reduceCtorEq, tyInt, tdInt, tyInts, tdInts]
    repeat (refine And.intro ?_ ?_; focus (first | exact ordP (by kernel_rfl) | with_reducible exact rfl | assumption | trivial | (simp only [inR]; omega) | omega | (intro hh; (try obtain ⟨hh1, hh2⟩ := hh); (repeat' apply And.intro) <;> first | assumption | (simp only [inR]; omega) | omega | (intros; (repeat' apply And.intro) <;> first | assumption | (simp only [inR]; omega) | omega)) | (intros; (repeat' apply And.intro) <;> first | assumption | (simp only [inR]; omega) | omega | (simp_all; done) | (simp_all [inR]; omega))))
    refine hK9 _ ?_
    clear hK9
    refine W_cond (b := _) rfl (fun hc10 => ?_) (fun hc10 => ?_)
    · try simp only [decide_eq_true_eq, decide_eq_false_iff_not, ne_eq, Decidable.not_not, Bool.not_eq_true', Bool.not_eq_false', Bool.or_eq_true, Bool.and_eq_true, Bool.or_eq_false_iff, Bool.and_eq_false_iff] at hc10
      refine W_seq (fun K11 hK11 => ?_)
      refine W_region hT hG [] [2] ?_
      rw [hnt]
      simp only [baseS, eq_self, implies_true, if_true, if_false, reduceIte, Nat.reduceBEq, Nat.reduceEqDiff, Nat.reduceLT, Nat.reduceAdd, reduceCtorEq, tyInt, tdInt, tyInts, tdInts]
      repeat (refine And.intro ?_ ?_; focus (first | exact ordP (by kernel_rfl) | with_reducible exact rfl | assumption | trivial | (simp only [inR]; omega) | omega | (intro hh; (try obtain ⟨hh1, hh2⟩ := hh); (repeat' apply And.intro) <;> first | assumption | (simp only [inR]; omega) | omega | (intros; (repeat' apply And.intro) <;> first | assumption | (simp only [inR]; omega) | omega)) | (intros; (repeat' apply And.intro) <;> first | assumption | (simp only [inR]; omega) | omega | (simp_all; done) | (simp_all [inR]; omega))))
      refine hK11 _ ?_
      clear hK11
      refine W_ret ?_
      simp only [thenQ, blockQ, loopQ, retQ, reduceIte, Nat.reduceEqDiff]
      refine ret0 ?_ rfl rfl (.inr rfl) rfl
      simp only [show Try.f45.results.toList = [ResultVar.tmp 2] from rfl, resAV, resL, look, Nat.reduceEqDiff, reduceIte, tyHull, tdHull, applyUps, noH, isStr, List.length_cons, List.length_nil, Nat.reduceAdd, and_self]
      all_goals (
        refine congrArg (fun x => some (AV.bool x)) ?_
        first | exact asc_end hI hc10 | exact asc_bad hi0 (by omega) (by omega))
    · try simp only [decide_eq_true_eq, decide_eq_false_iff_not, ne_eq, Decidable.not_not, Bool.not_eq_true', Bool.not_eq_false', Bool.or_eq_true, Bool.and_eq_true, Bool.or_eq_false_iff, Bool.and_eq_false_iff] at hc10
      refine W_skip ?_
      simp only [thenQ, blockQ, loopQ, reduceIte, Nat.reduceEqDiff]
      refine hK8 _ ?_
      clear hK8
      refine W_region hT hG [] [0, 3] ?_
      rw [hnt]
      simp only [baseS, eq_self, implies_true, if_true, if_false, reduceIte, Nat.reduceBEq, Nat.reduceEqDiff, Nat.reduceLT, Nat.reduceAdd, reduceCtorEq, tyInt, tdInt, tyInts, tdInts]
      repeat (refine And.intro ?_ ?_; focus (first | exact ordP (by kernel_rfl) | with_reducible exact rfl | assumption | trivial | (simp only [inR]; omega) | omega | (intro hh; (try obtain ⟨hh1, hh2⟩ := hh); (repeat' apply And.intro) <;> first | assumption | (simp only [inR]; omega) | omega | (intros; (repeat' apply And.intro) <;> first | assumption | (simp only [inR]; omega) | omega)) | (intros; (repeat' apply And.intro) <;> first | assumption | (simp only [inR]; omega) | omega | (simp_all; done) | (simp_all [inR]; omega))))
      refine ⟨i + 1, (by (try simp only [hnt, hnp]); rfl), ⟨by omega, by omega, asc_next hi0 hI (by omega)⟩, by dsimp only; omega⟩
  · try simp only [decide_eq_true_eq, decide_eq_false_iff_not, ne_eq, Decidable.not_not, Bool.not_eq_true', Bool.not_eq_false', Bool.or_eq_true, Bool.and_eq_true, Bool.or_eq_false_iff, Bool.and_eq_false_iff] at hc7
    refine W_exit ?_
    simp only [thenQ, blockQ, loopQ, reduceIte, Nat.reduceEqDiff]
    refine hK2 _ ?_
    clear hK2
    refine W_seq (fun K12 hK12 => ?_)
    refine W_region hT hG [] [2] ?_
    rw [hnt]
    simp only [baseS, eq_self, implies_true, if_true, if_false, reduceIte, Nat.reduceBEq, Nat.reduceEqDiff, Nat.reduceLT, Nat.reduceAdd, reduceCtorEq, tyInt, tdInt, tyInts, tdInts]
    repeat (refine And.intro ?_ ?_; focus (first | exact ordP (by kernel_rfl) | with_reducible exact rfl | assumption | trivial | (simp only [inR]; omega) | omega | (intro hh; (try obtain ⟨hh1, hh2⟩ := hh); (repeat' apply And.intro) <;> first | assumption | (simp only [inR]; omega) | omega | (intros; (repeat' apply And.intro) <;> first | assumption | (simp only [inR]; omega) | omega)) | (intros; (repeat' apply And.intro) <;> first | assumption | (simp only [inR]; omega) | omega | (simp_all; done) | (simp_all [inR]; omega))))
    refine hK12 _ ?_
    clear hK12
    refine W_ret ?_
    simp only [thenQ, blockQ, loopQ, retQ, reduceIte, Nat.reduceEqDiff]
    refine ret0 ?_ rfl rfl (.inr rfl) rfl
    simp only [show Try.f45.results.toList = [ResultVar.tmp 2] from rfl, resAV, resL, look, Nat.reduceEqDiff, reduceIte, tyHull, tdHull, applyUps, noH, isStr, List.length_cons, List.length_nil, Nat.reduceAdd, and_self]
    all_goals (
      refine congrArg (fun x => some (AV.bool x)) ?_
      first | exact asc_end hI hc7 | exact asc_bad hi0 (by omega) (by omega))

end Go.Proofs.Ytjkghldkemoddaa
