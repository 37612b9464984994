/- Walks over slots. No condition. -/
import Derived.Test.YtpiaeckkjdcifaaHull
namespace Go.Proofs.Ytpiaeckkjdcifaa
open Go
set_option linter.unusedVariables false
set_option linter.unusedSimpArgs false

def slotF (b r t x y z : Int) : Int := if (hv b r t && decide (0 ≤ x ∧ x ≤ b - 1) && decide (0 ≤ y ∧ y ≤ r - 1) && decide (0 ≤ z ∧ z ≤ t - 1)) = true then (x * r + y) * t + z else -1
def belF (b r t s : Int) : Int := if inS b r t s = true ∧ 0 < s % t then s - 1 else -1
theorem slotF_below (b r t s : Int) : slotF b r t (plB b r t s) (plR b r t s) (plT b r t s - 1) = belF b r t s := by
  by_cases h : inS b r t s = true
  · have hb := inS_box h
    have h1 := hb.1
    have h2 : 0 ≤ s ∧ s ≤ b * r * t - 1 := ⟨hb.2.1, hb.2.2.2.2.2.2.2.2.2.2.2⟩
    have h3 := h1
    simp only [hv, decide_eq_true_eq] at h3
    obtain ⟨b1, b2, r1, r2, t1, t2⟩ := h3
    have q0 : 0 ≤ s / t := Int.ediv_nonneg h2.1 (by omega)
    have q1 : 0 ≤ s / t / r := Int.ediv_nonneg q0 (by omega)
    have q2 : s / t / r ≤ b - 1 := by
      have e1 : s / t / r = s / (t * r) := Int.ediv_ediv_of_nonneg (by omega)
      have : s / (t * r) < b := by
        rw [Int.ediv_lt_iff_lt_mul (Int.mul_pos (by omega) (by omega))]
        have : b * (t * r) = b * r * t := by rw [Int.mul_assoc, Int.mul_comm t r]
        omega
      omega
    have q3 : 0 ≤ s / t % r := Int.emod_nonneg _ (by omega)
    have q4 : s / t % r < r := Int.emod_lt_of_pos _ (by omega)
    have q5 : 0 ≤ s % t := Int.emod_nonneg _ (by omega)
    have q6 : s % t < t := Int.emod_lt_of_pos _ (by omega)
    have d1 : (s / t / r) * r + s / t % r = s / t := by have := Int.mul_ediv_add_emod (s / t) r; rw [Int.mul_comm] at this; exact this
    have d2 : (s / t) * t + s % t = s := by have := Int.mul_ediv_add_emod s t; rw [Int.mul_comm] at this; exact this
    rw [plB, if_pos h, plR, if_pos h, plT, if_pos h, slotF, belF]
    simp only [h1, Bool.true_and, Bool.and_eq_true, decide_eq_true_eq, h, true_and]
    by_cases h5 : 0 < s % t
    · rw [if_pos ⟨⟨⟨q1, q2⟩, q3, by omega⟩, by omega, by omega⟩, if_pos h5, d1]
      omega
    · rw [if_neg (by omega), if_neg h5]
  · rw [belF, if_neg (fun hh => h hh.1), plB, if_neg h, plR, if_neg h, plT, if_neg h, slotF, if_neg]
    simp only [Bool.and_eq_true, decide_eq_true_eq]
    omega
theorem belF_in {b r t s : Int} (h1 : hv b r t = true) (h2 : 0 ≤ s) (h3 : s < b * r * t) : belF b r t s = if 0 < s % t then s - 1 else -1 := by
  have : inS b r t s = true := by simp only [inS, many, h1, if_true, Bool.true_and, decide_eq_true_eq]; omega
  simp only [belF, this, true_and]

theorem slotF_no {b r t x y z : Int} (h : ((hv b r t = false ∨ ¬ (0 ≤ x ∧ x ≤ b - 1)) ∨ ¬ (0 ≤ y ∧ y ≤ r - 1)) ∨ ¬ (0 ≤ z ∧ z ≤ t - 1)) : -1 = slotF b r t x y z := by
  unfold slotF
  rw [if_neg]
  simp only [Bool.and_eq_true, decide_eq_true_eq]
  rintro ⟨⟨⟨h1, h2⟩, h3⟩, h4⟩
  rcases h with ((h | h) | h) | h
  · rw [h] at h1; cases h1
  · exact h h2
  · exact h h3
  · exact h h4
theorem slotF_yes {b r t x y z : Int} (h : ((hv b r t = true ∧ (0 ≤ x ∧ x ≤ b - 1)) ∧ (0 ≤ y ∧ y ≤ r - 1)) ∧ (0 ≤ z ∧ z ≤ t - 1)) : (x * r + y) * t + z = slotF b r t x y z := by
  unfold slotF
  rw [if_pos]
  simp only [Bool.and_eq_true, decide_eq_true_eq]
  exact h
theorem slotF_box {b r t x y z : Int} (h : ((hv b r t = true ∧ (0 ≤ x ∧ x ≤ b - 1)) ∧ (0 ≤ y ∧ y ≤ r - 1)) ∧ (0 ≤ z ∧ z ≤ t - 1)) : 0 ≤ x * r ∧ x * r ≤ 9 ∧ 0 ≤ (x * r + y) * t ∧ (x * r + y) * t ≤ 33 := by
  obtain ⟨⟨⟨h1, h2⟩, h3⟩, h4⟩ := h
  have hb := hv_box h1
  have h5 : 0 ≤ x * r := Int.mul_nonneg h2.1 (by omega)
  have h6 : x * r ≤ 3 * 3 := Int.mul_le_mul (by omega) (by omega) (by omega) (by omega)
  have h7 : 0 ≤ (x * r + y) * t := Int.mul_nonneg (by omega) (by omega)
  have h8 : (x * r + y) * t ≤ 11 * 3 := Int.mul_le_mul (by omega) (by omega) (by omega) (by omega)
  omega
theorem pl3_le (b r t s : Int) : (-1 ≤ plB b r t s ∧ plB b r t s ≤ 35) ∧ (-1 ≤ plR b r t s ∧ plR b r t s ≤ 35) ∧ (-1 ≤ plT b r t s ∧ plT b r t s ≤ 35) := by
  by_cases h : inS b r t s = true
  · have hb := inS_box h
    rw [plB, if_pos h, plR, if_pos h, plT, if_pos h]
    have h1 : 0 ≤ s / t % r := Int.emod_nonneg _ (by omega)
    have h2 : s / t % r < r := Int.emod_lt_of_pos _ (by omega)
    have h3 : 0 ≤ s % t := Int.emod_nonneg _ (by omega)
    have h4 : s % t < t := Int.emod_lt_of_pos _ (by omega)
    omega
  · rw [plB, if_neg h, plR, if_neg h, plT, if_neg h]
    omega
theorem belF_no {b r t s : Int} (h : (hv b r t = false ∨ ¬ (0 ≤ s ∧ s ≤ b * r * t - 1)) ∨ s % t = 0) : -1 = belF b r t s := by
  unfold belF
  rw [if_neg]
  rintro ⟨h1, h2⟩
  have hb := inS_box h1
  rcases h with (h | h) | h
  · rw [h] at hb; cases hb.1
  · omega
  · omega
theorem belF_yes {b r t s : Int} (h : (hv b r t = true ∧ (0 ≤ s ∧ s ≤ b * r * t - 1)) ∧ ¬ s % t = 0) : s - 1 = belF b r t s := by
  have h1 := inS_of h.1.1 h.1.2
  have hb := inS_box h1
  have h3 : 0 ≤ s % t := Int.emod_nonneg _ (by omega)
  unfold belF
  rw [if_pos ⟨h1, by omega⟩]

def c_spec_SlotOf : Ctr where
  modes := [.v .p, .v .p, .v .p, .v .p]
  al := false
  run := fun xs os => match xs, os with
    | [.agg [.int b, .int r, .int t], .int x, .int y, .int z], [] => some ⟨True, .int (slotF b r t x y z), [], []⟩
    | _, _ => none
theorem m_spec_SlotOf : Meets Try.prog 124 c_spec_SlotOf := by
  refine meets_of (T := tyT) tyOK Try.func124 (by rfl) rfl (by decide) ?_
  intro args owns R hrun hpre
  simp only [c_spec_SlotOf] at hrun
  split at hrun
  case h_2 => cases hrun
  rename_i b r t x y z
  cases hrun
  try dsimp only at hpre
  refine ⟨_, rfl, fun E hP hnt hnp => ?_⟩
  replace hnt : E.nt = 47 := hnt
  replace hnp : E.np = 4 := hnp
  have hT : ∀ t d, tyT t = some d → TyOK E.P t d := hP ▸ tyOK
  have hG : ∀ f C, Γof [(66, c_spec_l1In), (81, c_spec_HullValid)] f = some C → Meets E.P f C := hΓof (by rw [hP]; exact ⟨m_spec_l1In, m_spec_HullValid, trivial⟩)
  try simp only [show Try.f124.ntmps = 47 from rfl]
  have hbb := @hv_box b r t
  refine W_seq (fun K1 hK1 => ?_)
  refine W_region hT hG [] [1, 2, 3, 4] ?_
  rw [hnt]
  simp only [baseS, eq_self, implies_true, if_true, if_false, reduceIte, Nat.reduceBEq, Nat.reduceEqDiff, Nat.reduceLT, Nat.reduceAdd, reduceCtorEq, tyInt, tdInt, tyHull, tdHull, c_spec_l1In, c_spec_HullValid]
  repeat (refine And.intro ?_ ?_; focus (first | exact ordP (by kernel_rfl) | with_reducible exact rfl | assumption | trivial | (simp only [inR]; omega) | omega | (intros; (repeat' apply And.intro) <;> first | assumption | (simp only [inR]; omega) | omega | (simp_all; done) | (simp_all [inR]; omega))))
  refine hK1 _ ?_
  clear hK1
  refine W_seq (fun K2 hK2 => ?_)
  refine W_seq (fun K3 hK3 => ?_)
  refine W_region hT hG [] [1, 2, 3, 4, 35] ?_
  rw [hnt]
  simp only [baseS, eq_self, implies_true, if_true, if_false, reduceIte, Nat.reduceBEq, Nat.reduceEqDiff, Nat.reduceLT, Nat.reduceAdd, reduceCtorEq, tyInt, tdInt, tyHull, tdHull, c_spec_l1In, c_spec_HullValid]
  repeat (refine And.intro ?_ ?_; focus (first | with_reducible exact rfl | trivial | (intro hh; have hq := hbb (by cases hx : hv b r t <;> simp_all); exact ⟨hh, by simp only [inR]; omega⟩)))
  refine hK3 _ ?_
  clear hK3
  refine W_cond (b := _) rfl (fun hc4 => ?_) (fun hc4 => ?_)
  · try simp only [decide_eq_true_eq, decide_eq_false_iff_not, ne_eq, Decidable.not_not, Bool.not_eq_true', Bool.not_eq_false', Bool.or_eq_true, Bool.and_eq_true, Bool.or_eq_false_iff, Bool.and_eq_false_iff] at hc4
    refine W_seq (fun K5 hK5 => ?_)
    refine W_region hT hG [] [8] ?_
    rw [hnt]
    simp only [baseS, eq_self, implies_true, if_true, if_false, reduceIte, Nat.reduceBEq, Nat.reduceEqDiff, Nat.reduceLT, Nat.reduceAdd, reduceCtorEq, tyInt, tdInt, tyHull, tdHull, c_spec_l1In, c_spec_HullValid]
    repeat (refine And.intro ?_ ?_; focus (first | exact ordP (by kernel_rfl) | with_reducible exact rfl | assumption | trivial | (simp only [inR]; omega) | omega | (intros; (repeat' apply And.intro) <;> first | assumption | (simp only [inR]; omega) | omega | (simp_all; done) | (simp_all [inR]; omega))))
    refine hK5 _ ?_
    clear hK5
    refine W_ret ?_
    simp only [thenQ, blockQ, loopQ, retQ, reduceIte, Nat.reduceEqDiff]
    refine ret0 ?_ rfl rfl (.inr rfl) rfl
    simp only [show Try.f124.results.toList = [ResultVar.tmp 8] from rfl, resAV, resL, look, Nat.reduceEqDiff, reduceIte, tyHull, tdHull, applyUps, noH, isStr, List.length_cons, List.length_nil, Nat.reduceAdd, and_self]
    all_goals (
      refine congrArg (fun x => some (AV.int x)) ?_
      first | exact slotF_no hc4 | exact slotF_yes hc4)
  · try simp only [decide_eq_true_eq, decide_eq_false_iff_not, ne_eq, Decidable.not_not, Bool.not_eq_true', Bool.not_eq_false', Bool.or_eq_true, Bool.and_eq_true, Bool.or_eq_false_iff, Bool.and_eq_false_iff] at hc4
    refine W_skip ?_
    simp only [thenQ, blockQ, loopQ, reduceIte, Nat.reduceEqDiff]
    refine hK2 _ ?_
    clear hK2
    refine W_seq (fun K6 hK6 => ?_)
    refine W_region hT hG [] [8] ?_
    rw [hnt]
    simp only [baseS, eq_self, implies_true, if_true, if_false, reduceIte, Nat.reduceBEq, Nat.reduceEqDiff, Nat.reduceLT, Nat.reduceAdd, reduceCtorEq, tyInt, tdInt, tyHull, tdHull, c_spec_l1In, c_spec_HullValid]
    have hq := slotF_box hc4
    have hq2 := hbb hc4.1.1.1
    have hq3 := hc4
    obtain ⟨⟨⟨hd1, hd2⟩, hd3⟩, hd4⟩ := hq3
    repeat (refine And.intro ?_ ?_; focus (first | exact ordP (by kernel_rfl) | with_reducible exact rfl | assumption | trivial | (simp only [inR]; omega) | omega | (intros; (repeat' apply And.intro) <;> first | assumption | (simp only [inR]; omega) | omega | (simp_all; done) | (simp_all [inR]; omega))))
    refine hK6 _ ?_
    clear hK6
    refine W_ret ?_
    simp only [thenQ, blockQ, loopQ, retQ, reduceIte, Nat.reduceEqDiff]
    refine ret0 ?_ rfl rfl (.inr rfl) rfl
    simp only [show Try.f124.results.toList = [ResultVar.tmp 8] from rfl, resAV, resL, look, Nat.reduceEqDiff, reduceIte, tyHull, tdHull, applyUps, noH, isStr, List.length_cons, List.length_nil, Nat.reduceAdd, and_self]
    all_goals (
      refine congrArg (fun x => some (AV.int x)) ?_
      first | exact slotF_no hc4 | exact slotF_yes hc4)

def c_spec_SlotBelow : Ctr where
  modes := [.v .p, .v .p]
  al := false
  run := fun xs os => match xs, os with
    | [.agg [.int b, .int r, .int t], .int s], [] => some ⟨True, .int (belF b r t s), [], []⟩
    | _, _ => none
theorem m_spec_SlotBelow : Meets Try.prog 84 c_spec_SlotBelow := by
  refine meets_of (T := tyT) tyOK Try.func84 (by rfl) rfl (by decide) ?_
  intro args owns R hrun hpre
  simp only [c_spec_SlotBelow] at hrun
  split at hrun
  case h_2 => cases hrun
  rename_i b r t s
  cases hrun
  try dsimp only at hpre
  refine ⟨_, rfl, fun E hP hnt hnp => ?_⟩
  replace hnt : E.nt = 21 := hnt
  replace hnp : E.np = 2 := hnp
  have hT : ∀ t d, tyT t = some d → TyOK E.P t d := hP ▸ tyOK
  have hG : ∀ f C, Γof [(123, c_spec_PlaceOf), (124, c_spec_SlotOf)] f = some C → Meets E.P f C := hΓof (by rw [hP]; exact ⟨m_spec_PlaceOf, m_spec_SlotOf, trivial⟩)
  try simp only [show Try.f84.ntmps = 21 from rfl]
  have hpl := pl3_le b r t s
  refine W_seq (fun K1 hK1 => ?_)
  refine W_region hT hG [] [1, 2] ?_
  rw [hnt]
  simp only [baseS, eq_self, implies_true, if_true, if_false, reduceIte, Nat.reduceBEq, Nat.reduceEqDiff, Nat.reduceLT, Nat.reduceAdd, reduceCtorEq, tyInt, tdInt, tyHull, tdHull, c_spec_PlaceOf, c_spec_SlotOf]
  repeat (refine And.intro ?_ ?_; focus (first | exact ordP (by kernel_rfl) | with_reducible exact rfl | assumption | trivial | (simp only [inR]; omega) | omega | (intro hh; (try obtain ⟨hh1, hh2⟩ := hh); (repeat' apply And.intro) <;> first | assumption | (simp only [inR]; omega) | omega | (intros; (repeat' apply And.intro) <;> first | assumption | (simp only [inR]; omega) | omega)) | (intros; (repeat' apply And.intro) <;> first | assumption | (simp only [inR]; omega) | omega | (simp_all; done) | (simp_all [inR]; omega))))
  refine hK1 _ ?_
  clear hK1
  refine W_seq (fun K2 hK2 => ?_)
  refine W_region hT hG [] [2, 5, 6, 7] ?_
  rw [hnt]
  simp only [baseS, eq_self, implies_true, if_true, if_false, reduceIte, Nat.reduceBEq, Nat.reduceEqDiff, Nat.reduceLT, Nat.reduceAdd, reduceCtorEq, tyInt, tdInt, tyHull, tdHull, c_spec_PlaceOf, c_spec_SlotOf]
  repeat (refine And.intro ?_ ?_; focus (first | exact ordP (by kernel_rfl) | with_reducible exact rfl | assumption | trivial | (simp only [inR]; omega) | omega | (intro hh; (try obtain ⟨hh1, hh2⟩ := hh); (repeat' apply And.intro) <;> first | assumption | (simp only [inR]; omega) | omega | (intros; (repeat' apply And.intro) <;> first | assumption | (simp only [inR]; omega) | omega)) | (intros; (repeat' apply And.intro) <;> first | assumption | (simp only [inR]; omega) | omega | (simp_all; done) | (simp_all [inR]; omega))))
  refine hK2 _ ?_
  clear hK2
  refine W_seq (fun K3 hK3 => ?_)
  refine W_region hT hG [] [4] ?_
  rw [hnt]
  simp only [baseS, eq_self, implies_true, if_true, if_false, reduceIte, Nat.reduceBEq, Nat.reduceEqDiff, Nat.reduceLT, Nat.reduceAdd, reduceCtorEq, tyInt, tdInt, tyHull, tdHull, c_spec_PlaceOf, c_spec_SlotOf]
  repeat (refine And.intro ?_ ?_; focus (first | exact ordP (by kernel_rfl) | with_reducible exact rfl | assumption | trivial | (simp only [inR]; omega) | omega | (intro hh; (try obtain ⟨hh1, hh2⟩ := hh); (repeat' apply And.intro) <;> first | assumption | (simp only [inR]; omega) | omega | (intros; (repeat' apply And.intro) <;> first | assumption | (simp only [inR]; omega) | omega)) | (intros; (repeat' apply And.intro) <;> first | assumption | (simp only [inR]; omega) | omega | (simp_all; done) | (simp_all [inR]; omega))))
  refine hK3 _ ?_
  clear hK3
  refine W_ret ?_
  simp only [thenQ, blockQ, loopQ, retQ, reduceIte, Nat.reduceEqDiff]
  refine ret0 ?_ rfl rfl (.inr rfl) rfl
  simp only [show Try.f84.results.toList = [ResultVar.tmp 4] from rfl, resAV, resL, look, Nat.reduceEqDiff, reduceIte, tyHull, tdHull, applyUps, noH, isStr, List.length_cons, List.length_nil, Nat.reduceAdd, and_self]
  all_goals (
    refine congrArg (fun x => some (AV.int x)) ?_
    exact slotF_below b r t s)

def c_impl_Hull_tier : Ctr where
  modes := [.v .p, .v .p]
  al := false
  run := fun xs os => match xs, os with
    | [.agg [.int b, .int r, .int t], .int s], [] => some ⟨0 ≤ s ∧ 0 < t, .int (s % t), [], []⟩
    | _, _ => none
theorem m_impl_Hull_tier : Meets Try.prog 78 c_impl_Hull_tier := by
  refine meets_of (T := tyT) tyOK Try.func78 (by rfl) rfl (by decide) ?_
  intro args owns R hrun hpre
  simp only [c_impl_Hull_tier] at hrun
  split at hrun
  case h_2 => cases hrun
  rename_i b r t s
  cases hrun
  try dsimp only at hpre
  refine ⟨_, rfl, fun E hP hnt hnp => ?_⟩
  replace hnt : E.nt = 9 := hnt
  replace hnp : E.np = 2 := hnp
  have hT : ∀ t d, tyT t = some d → TyOK E.P t d := hP ▸ tyOK
  have hG : ∀ f C, Γof [] f = some C → Meets E.P f C := hΓof (by rw [hP]; exact trivial)
  try simp only [show Try.f78.ntmps = 9 from rfl]
  refine W_seq (fun K1 hK1 => ?_)
  refine W_region hT hG [] [1, 2] ?_
  rw [hnt]
  simp only [baseS, eq_self, implies_true, if_true, if_false, reduceIte, Nat.reduceBEq, Nat.reduceEqDiff, Nat.reduceLT, Nat.reduceAdd, reduceCtorEq, tyInt, tdInt, tyHull, tdHull]
  repeat (refine And.intro ?_ ?_; focus (first | exact ordP (by kernel_rfl) | with_reducible exact rfl | assumption | trivial | (simp only [inR]; omega) | omega | (intro hh; (try obtain ⟨hh1, hh2⟩ := hh); (repeat' apply And.intro) <;> first | assumption | (simp only [inR]; omega) | omega | (intros; (repeat' apply And.intro) <;> first | assumption | (simp only [inR]; omega) | omega)) | (intros; (repeat' apply And.intro) <;> first | assumption | (simp only [inR]; omega) | omega | (simp_all; done) | (simp_all [inR]; omega))))
  refine hK1 _ ?_
  clear hK1
  refine W_seq (fun K2 hK2 => ?_)
  refine W_region hT hG [] [4] ?_
  rw [hnt]
  simp only [baseS, eq_self, implies_true, if_true, if_false, reduceIte, Nat.reduceBEq, Nat.reduceEqDiff, Nat.reduceLT, Nat.reduceAdd, reduceCtorEq, tyInt, tdInt, tyHull, tdHull]
  repeat (refine And.intro ?_ ?_; focus (first | exact ordP (by kernel_rfl) | with_reducible exact rfl | assumption | trivial | (simp only [inR]; omega) | omega | (intro hh; (try obtain ⟨hh1, hh2⟩ := hh); (repeat' apply And.intro) <;> first | assumption | (simp only [inR]; omega) | omega | (intros; (repeat' apply And.intro) <;> first | assumption | (simp only [inR]; omega) | omega)) | (intros; (repeat' apply And.intro) <;> first | assumption | (simp only [inR]; omega) | omega | (simp_all; done) | (simp_all [inR]; omega))))
  refine hK2 _ ?_
  clear hK2
  refine W_ret ?_
  simp only [thenQ, blockQ, loopQ, retQ, reduceIte, Nat.reduceEqDiff]
  refine ret0 ?_ rfl rfl (.inr rfl) rfl
  simp only [show Try.f78.results.toList = [ResultVar.tmp 4] from rfl, resAV, resL, look, Nat.reduceEqDiff, reduceIte, tyHull, tdHull, applyUps, noH, isStr, List.length_cons, List.length_nil, Nat.reduceAdd, and_self]
  all_goals (
    first | rfl | (simp_all; done))

end Go.Proofs.Ytpiaeckkjdcifaa
