/- Walks over the functions of a ship's slots. No condition. -/
import Derived.Test.YtpiaeckkjdcifaaWalk
namespace Go.Proofs.Ytpiaeckkjdcifaa
open Go
set_option linter.unusedVariables false
set_option linter.unusedSimpArgs false

/-- Is it a ship? -/
def hv (b r t : Int) : Bool := decide (1 ≤ b ∧ b ≤ 4 ∧ 1 ≤ r ∧ r ≤ 3 ∧ 1 ≤ t ∧ t ≤ 3)
theorem mul_box {b r : Int} {m n : Int} (h1 : 1 ≤ b) (h2 : b ≤ m) (h3 : 1 ≤ r) (h4 : r ≤ n) : 1 ≤ b * r ∧ b * r ≤ m * n :=
  ⟨by have := Int.mul_le_mul h1 h3 (by omega) (by omega); omega, Int.mul_le_mul h2 h4 (by omega) (by omega)⟩
theorem hv_box {b r t : Int} (h : hv b r t = true) : 1 ≤ b ∧ b ≤ 4 ∧ 1 ≤ r ∧ r ≤ 3 ∧ 1 ≤ t ∧ t ≤ 3 ∧ 1 ≤ b * r ∧ b * r ≤ 12 ∧ 1 ≤ b * r * t ∧ b * r * t ≤ 36 := by
  simp only [hv, decide_eq_true_eq] at h
  obtain ⟨h1, h2, h3, h4, h5, h6⟩ := h
  obtain ⟨h7, h8⟩ := mul_box h1 h2 h3 h4
  obtain ⟨h9, h10⟩ := mul_box h7 h8 h5 h6
  exact ⟨h1, h2, h3, h4, h5, h6, h7, by omega, h9, by omega⟩

def c_impl_within : Ctr where
  modes := [.v .p, .v .p, .v .p]
  al := false
  run := fun xs os => match xs, os with
    | [.int a, .int b, .int c], [] => some ⟨True, .bool (decide (b ≤ a ∧ a ≤ c)), [], []⟩
    | _, _ => none
theorem m_impl_within : Meets Try.prog 62 c_impl_within := by
  refine meets_of (T := tyT) tyOK Try.func62 (by rfl) rfl (by decide) ?_
  intro args owns R hrun hpre
  simp only [c_impl_within] at hrun
  split at hrun
  case h_2 => cases hrun
  rename_i a b c
  cases hrun
  try dsimp only at hpre
  refine ⟨_, rfl, fun E hP hnt hnp => ?_⟩
  replace hnt : E.nt = 15 := hnt
  replace hnp : E.np = 3 := hnp
  have hT : ∀ t d, tyT t = some d → TyOK E.P t d := hP ▸ tyOK
  have hG : ∀ f C, Γof [] f = some C → Meets E.P f C := hΓof (by rw [hP]; exact trivial)
  try simp only [show Try.f62.ntmps = 15 from rfl]
  refine W_seq (fun K1 hK1 => ?_)
  refine W_region hT hG [] [0, 1, 2] ?_
  rw [hnt]
  simp only [baseS, eq_self, implies_true, if_true, if_false, reduceIte, Nat.reduceBEq, Nat.reduceEqDiff, Nat.reduceLT, Nat.reduceAdd, reduceCtorEq, tyInt, tdInt]
  repeat (refine And.intro ?_ ?_; focus (first | exact ordP (by kernel_rfl) | with_reducible exact rfl | assumption | trivial | (simp only [inR]; omega) | omega | (intro hh; (try obtain ⟨hh1, hh2⟩ := hh); (repeat' apply And.intro) <;> first | assumption | (simp only [inR]; omega) | omega | (intros; (repeat' apply And.intro) <;> first | assumption | (simp only [inR]; omega) | omega)) | (intros; (repeat' apply And.intro) <;> first | assumption | (simp only [inR]; omega) | omega | (simp_all; done) | (simp_all [inR]; omega))))
  refine hK1 _ ?_
  clear hK1
  refine W_seq (fun K2 hK2 => ?_)
  refine W_region hT hG [] [6] ?_
  rw [hnt]
  simp only [baseS, eq_self, implies_true, if_true, if_false, reduceIte, Nat.reduceBEq, Nat.reduceEqDiff, Nat.reduceLT, Nat.reduceAdd, reduceCtorEq, tyInt, tdInt]
  repeat (refine And.intro ?_ ?_; focus (first | exact ordP (by kernel_rfl) | with_reducible exact rfl | assumption | trivial | (simp only [inR]; omega) | omega | (intro hh; (try obtain ⟨hh1, hh2⟩ := hh); (repeat' apply And.intro) <;> first | assumption | (simp only [inR]; omega) | omega | (intros; (repeat' apply And.intro) <;> first | assumption | (simp only [inR]; omega) | omega)) | (intros; (repeat' apply And.intro) <;> first | assumption | (simp only [inR]; omega) | omega | (simp_all; done) | (simp_all [inR]; omega))))
  refine hK2 _ ?_
  clear hK2
  refine W_ret ?_
  simp only [thenQ, blockQ, loopQ, retQ, reduceIte, Nat.reduceEqDiff]
  refine ret0 ?_ rfl rfl (.inr rfl) rfl
  simp only [show Try.f62.results.toList = [ResultVar.tmp 6] from rfl, resAV, resL, look, Nat.reduceEqDiff, reduceIte, tyHull, tdHull, applyUps, noH, isStr, List.length_cons, List.length_nil, Nat.reduceAdd, and_self]
  all_goals (
    by_cases h1 : b ≤ a <;> by_cases h2 : a ≤ c <;> simp [h1, h2])

def c_spec_l1In : Ctr where
  modes := [.v .p, .v .p, .v .p]
  al := false
  run := fun xs os => match xs, os with
    | [.int a, .int b, .int c], [] => some ⟨True, .bool (decide (b ≤ a ∧ a ≤ c)), [], []⟩
    | _, _ => none
theorem m_spec_l1In : Meets Try.prog 66 c_spec_l1In := by
  refine meets_of (T := tyT) tyOK Try.func66 (by rfl) rfl (by decide) ?_
  intro args owns R hrun hpre
  simp only [c_spec_l1In] at hrun
  split at hrun
  case h_2 => cases hrun
  rename_i a b c
  cases hrun
  try dsimp only at hpre
  refine ⟨_, rfl, fun E hP hnt hnp => ?_⟩
  replace hnt : E.nt = 15 := hnt
  replace hnp : E.np = 3 := hnp
  have hT : ∀ t d, tyT t = some d → TyOK E.P t d := hP ▸ tyOK
  have hG : ∀ f C, Γof [] f = some C → Meets E.P f C := hΓof (by rw [hP]; exact trivial)
  try simp only [show Try.f66.ntmps = 15 from rfl]
  refine W_seq (fun K1 hK1 => ?_)
  refine W_region hT hG [] [0, 1, 2] ?_
  rw [hnt]
  simp only [baseS, eq_self, implies_true, if_true, if_false, reduceIte, Nat.reduceBEq, Nat.reduceEqDiff, Nat.reduceLT, Nat.reduceAdd, reduceCtorEq, tyInt, tdInt]
  repeat (refine And.intro ?_ ?_; focus (first | exact ordP (by kernel_rfl) | with_reducible exact rfl | assumption | trivial | (simp only [inR]; omega) | omega | (intro hh; (try obtain ⟨hh1, hh2⟩ := hh); (repeat' apply And.intro) <;> first | assumption | (simp only [inR]; omega) | omega | (intros; (repeat' apply And.intro) <;> first | assumption | (simp only [inR]; omega) | omega)) | (intros; (repeat' apply And.intro) <;> first | assumption | (simp only [inR]; omega) | omega | (simp_all; done) | (simp_all [inR]; omega))))
  refine hK1 _ ?_
  clear hK1
  refine W_seq (fun K2 hK2 => ?_)
  refine W_region hT hG [] [6] ?_
  rw [hnt]
  simp only [baseS, eq_self, implies_true, if_true, if_false, reduceIte, Nat.reduceBEq, Nat.reduceEqDiff, Nat.reduceLT, Nat.reduceAdd, reduceCtorEq, tyInt, tdInt]
  repeat (refine And.intro ?_ ?_; focus (first | exact ordP (by kernel_rfl) | with_reducible exact rfl | assumption | trivial | (simp only [inR]; omega) | omega | (intro hh; (try obtain ⟨hh1, hh2⟩ := hh); (repeat' apply And.intro) <;> first | assumption | (simp only [inR]; omega) | omega | (intros; (repeat' apply And.intro) <;> first | assumption | (simp only [inR]; omega) | omega)) | (intros; (repeat' apply And.intro) <;> first | assumption | (simp only [inR]; omega) | omega | (simp_all; done) | (simp_all [inR]; omega))))
  refine hK2 _ ?_
  clear hK2
  refine W_ret ?_
  simp only [thenQ, blockQ, loopQ, retQ, reduceIte, Nat.reduceEqDiff]
  refine ret0 ?_ rfl rfl (.inr rfl) rfl
  simp only [show Try.f66.results.toList = [ResultVar.tmp 6] from rfl, resAV, resL, look, Nat.reduceEqDiff, reduceIte, tyHull, tdHull, applyUps, noH, isStr, List.length_cons, List.length_nil, Nat.reduceAdd, and_self]
  all_goals (
    by_cases h1 : b ≤ a <;> by_cases h2 : a ≤ c <;> simp [h1, h2])

def c_impl_HullValid : Ctr where
  modes := [.v .p]
  al := false
  run := fun xs os => match xs, os with
    | [.agg [.int b, .int r, .int t]], [] => some ⟨True, .bool (hv b r t), [], []⟩
    | _, _ => none
theorem m_impl_HullValid : Meets Try.prog 86 c_impl_HullValid := by
  refine meets_of (T := tyT) tyOK Try.func86 (by rfl) rfl (by decide) ?_
  intro args owns R hrun hpre
  simp only [c_impl_HullValid] at hrun
  split at hrun
  case h_2 => cases hrun
  rename_i b r t
  cases hrun
  try dsimp only at hpre
  refine ⟨_, rfl, fun E hP hnt hnp => ?_⟩
  replace hnt : E.nt = 16 := hnt
  replace hnp : E.np = 1 := hnp
  have hT : ∀ t d, tyT t = some d → TyOK E.P t d := hP ▸ tyOK
  have hG : ∀ f C, Γof [(62, c_impl_within)] f = some C → Meets E.P f C := hΓof (by rw [hP]; exact ⟨m_impl_within, trivial⟩)
  try simp only [show Try.f86.ntmps = 16 from rfl]
  refine W_seq (fun K1 hK1 => ?_)
  refine W_region hT hG [] [1] ?_
  rw [hnt]
  simp only [baseS, eq_self, implies_true, if_true, if_false, reduceIte, Nat.reduceBEq, Nat.reduceEqDiff, Nat.reduceLT, Nat.reduceAdd, reduceCtorEq, tyInt, tdInt, tyHull, tdHull, c_impl_within]
  repeat (refine And.intro ?_ ?_; focus (first | exact ordP (by kernel_rfl) | with_reducible exact rfl | assumption | trivial | (simp only [inR]; omega) | omega | (intro hh; (try obtain ⟨hh1, hh2⟩ := hh); (repeat' apply And.intro) <;> first | assumption | (simp only [inR]; omega) | omega | (intros; (repeat' apply And.intro) <;> first | assumption | (simp only [inR]; omega) | omega)) | (intros; (repeat' apply And.intro) <;> first | assumption | (simp only [inR]; omega) | omega | (simp_all; done) | (simp_all [inR]; omega))))
  refine hK1 _ ?_
  clear hK1
  refine W_seq (fun K2 hK2 => ?_)
  refine W_region hT hG [] [2] ?_
  rw [hnt]
  simp only [baseS, eq_self, implies_true, if_true, if_false, reduceIte, Nat.reduceBEq, Nat.reduceEqDiff, Nat.reduceLT, Nat.reduceAdd, reduceCtorEq, tyInt, tdInt, tyHull, tdHull, c_impl_within]
  repeat (refine And.intro ?_ ?_; focus (first | exact ordP (by kernel_rfl) | with_reducible exact rfl | assumption | trivial | (simp only [inR]; omega) | omega | (intro hh; (try obtain ⟨hh1, hh2⟩ := hh); (repeat' apply And.intro) <;> first | assumption | (simp only [inR]; omega) | omega | (intros; (repeat' apply And.intro) <;> first | assumption | (simp only [inR]; omega) | omega)) | (intros; (repeat' apply And.intro) <;> first | assumption | (simp only [inR]; omega) | omega | (simp_all; done) | (simp_all [inR]; omega))))
  refine hK2 _ ?_
  clear hK2
  refine W_ret ?_
  simp only [thenQ, blockQ, loopQ, retQ, reduceIte, Nat.reduceEqDiff]
  refine ret0 ?_ rfl rfl (.inr rfl) rfl
  simp only [show Try.f86.results.toList = [ResultVar.tmp 2] from rfl, resAV, resL, look, Nat.reduceEqDiff, reduceIte, tyHull, tdHull, applyUps, noH, isStr, List.length_cons, List.length_nil, Nat.reduceAdd, and_self]
  all_goals (
    simp only [hv, ← Bool.decide_and, and_assoc])

def c_spec_HullValid : Ctr where
  modes := [.v .p]
  al := false
  run := fun xs os => match xs, os with
    | [.agg [.int b, .int r, .int t]], [] => some ⟨True, .bool (hv b r t), [], []⟩
    | _, _ => none
theorem m_spec_HullValid : Meets Try.prog 81 c_spec_HullValid := by
  refine meets_of (T := tyT) tyOK Try.func81 (by rfl) rfl (by decide) ?_
  intro args owns R hrun hpre
  simp only [c_spec_HullValid] at hrun
  split at hrun
  case h_2 => cases hrun
  rename_i b r t
  cases hrun
  try dsimp only at hpre
  refine ⟨_, rfl, fun E hP hnt hnp => ?_⟩
  replace hnt : E.nt = 16 := hnt
  replace hnp : E.np = 1 := hnp
  have hT : ∀ t d, tyT t = some d → TyOK E.P t d := hP ▸ tyOK
  have hG : ∀ f C, Γof [(66, c_spec_l1In)] f = some C → Meets E.P f C := hΓof (by rw [hP]; exact ⟨m_spec_l1In, trivial⟩)
  try simp only [show Try.f81.ntmps = 16 from rfl]
  refine W_seq (fun K1 hK1 => ?_)
  refine W_region hT hG [] [1] ?_
  rw [hnt]
  simp only [baseS, eq_self, implies_true, if_true, if_false, reduceIte, Nat.reduceBEq, Nat.reduceEqDiff, Nat.reduceLT, Nat.reduceAdd, reduceCtorEq, tyInt, tdInt, tyHull, tdHull, c_spec_l1In]
  repeat (refine And.intro ?_ ?_; focus (first | exact ordP (by kernel_rfl) | with_reducible exact rfl | assumption | trivial | (simp only [inR]; omega) | omega | (intro hh; (try obtain ⟨hh1, hh2⟩ := hh); (repeat' apply And.intro) <;> first | assumption | (simp only [inR]; omega) | omega | (intros; (repeat' apply And.intro) <;> first | assumption | (simp only [inR]; omega) | omega)) | (intros; (repeat' apply And.intro) <;> first | assumption | (simp only [inR]; omega) | omega | (simp_all; done) | (simp_all [inR]; omega))))
  refine hK1 _ ?_
  clear hK1
  refine W_seq (fun K2 hK2 => ?_)
  refine W_region hT hG [] [2] ?_
  rw [hnt]
  simp only [baseS, eq_self, implies_true, if_true, if_false, reduceIte, Nat.reduceBEq, Nat.reduceEqDiff, Nat.reduceLT, Nat.reduceAdd, reduceCtorEq, tyInt, tdInt, tyHull, tdHull, c_spec_l1In]
  repeat (refine And.intro ?_ ?_; focus (first | exact ordP (by kernel_rfl) | with_reducible exact rfl | assumption | trivial | (simp only [inR]; omega) | omega | (intro hh; (try obtain ⟨hh1, hh2⟩ := hh); (repeat' apply And.intro) <;> first | assumption | (simp only [inR]; omega) | omega | (intros; (repeat' apply And.intro) <;> first | assumption | (simp only [inR]; omega) | omega)) | (intros; (repeat' apply And.intro) <;> first | assumption | (simp only [inR]; omega) | omega | (simp_all; done) | (simp_all [inR]; omega))))
  refine hK2 _ ?_
  clear hK2
  refine W_ret ?_
  simp only [thenQ, blockQ, loopQ, retQ, reduceIte, Nat.reduceEqDiff]
  refine ret0 ?_ rfl rfl (.inr rfl) rfl
  simp only [show Try.f81.results.toList = [ResultVar.tmp 2] from rfl, resAV, resL, look, Nat.reduceEqDiff, reduceIte, tyHull, tdHull, applyUps, noH, isStr, List.length_cons, List.length_nil, Nat.reduceAdd, and_self]
  all_goals (
    simp only [hv, ← Bool.decide_and, and_assoc])

/-- How many slots a ship has. -/
def many (b r t : Int) : Int := if hv b r t = true then b * r * t else -1
theorem div_le {s t : Int} (h0 : 0 ≤ s) (ht : 0 < t) : 0 ≤ s / t ∧ s / t ≤ s := ⟨Int.ediv_nonneg h0 (by omega), Int.ediv_le_self _ h0⟩
/-- A slot of the ship? -/
def inS (b r t s : Int) : Bool := hv b r t && decide (0 ≤ s ∧ s ≤ many b r t - 1)
theorem many_le (b r t : Int) : -1 ≤ many b r t ∧ many b r t ≤ 36 := by
  unfold many; split
  · rename_i h; have := hv_box h; omega
  · omega
theorem inS_box {b r t s : Int} (h : inS b r t s = true) : hv b r t = true ∧ 0 ≤ s ∧ s ≤ 35 ∧ 1 ≤ r ∧ r ≤ 3 ∧ 1 ≤ t ∧ t ≤ 3 ∧ 0 ≤ s / t ∧ s / t ≤ 35 ∧ 0 ≤ s / t / r ∧ s / t / r ≤ 35 ∧ s ≤ b * r * t - 1 := by
  simp only [inS, Bool.and_eq_true, decide_eq_true_eq] at h
  obtain ⟨h1, h2, h3⟩ := h
  simp only [many, h1, if_true] at h3
  obtain ⟨_, _, h4, h5, h6, h7, _, _, _, h8⟩ := hv_box h1
  have h9 := div_le h2 (show 0 < t by omega)
  have h10 := div_le h9.1 (show 0 < r by omega)
  exact ⟨h1, h2, by omega, h4, h5, h6, h7, h9.1, by omega, h10.1, by omega, h3⟩
/-- How far two slots are apart. -/
def apD (r t p q : Int) : Int := if p / t = q / t then 0 else if p / t / r = q / t / r then 1 else if p / t / r - q / t / r = 1 ∨ q / t / r - p / t / r = 1 then 2 else 3
def apartOf (b r t p q : Int) : Int := if (inS b r t p && inS b r t q) = true then apD r t p q else -1
theorem inS_of {b r t p : Int} (h1 : hv b r t = true) (h2 : 0 ≤ p ∧ p ≤ b * r * t - 1) : inS b r t p = true := by
  simp only [inS, many, h1, if_true, Bool.true_and, decide_eq_true_eq]; exact h2
theorem inS_not {b r t p : Int} (h1 : hv b r t = true) (h2 : ¬ (0 ≤ p ∧ p ≤ b * r * t - 1)) : inS b r t p = false := by
  simp only [inS, many, h1, if_true, Bool.true_and, decide_eq_false_iff_not]; exact h2
theorem inS_hv {b r t p : Int} (h1 : hv b r t = false) : inS b r t p = false := by simp [inS, h1]
theorem apartOf_no {b r t p q : Int} (h : (hv b r t = false ∨ ¬ (0 ≤ p ∧ p ≤ b * r * t - 1)) ∨ ¬ (0 ≤ q ∧ q ≤ b * r * t - 1)) : apartOf b r t p q = -1 := by
  unfold apartOf
  cases h0 : hv b r t with
  | false => simp [inS_hv h0]
  | true =>
    rcases h with (h | h) | h
    · rw [h0] at h; cases h
    · simp [inS_not h0 h]
    · simp [inS_not h0 h]
theorem inS2 {b r t p q : Int} (h : (hv b r t = true ∧ (0 ≤ p ∧ p ≤ b * r * t - 1)) ∧ (0 ≤ q ∧ q ≤ b * r * t - 1)) : (inS b r t p && inS b r t q) = true := by
  rw [inS_of h.1.1 h.1.2, inS_of h.1.1 h.2]; rfl
theorem apartOf_yes {b r t p q : Int} (h : (hv b r t = true ∧ (0 ≤ p ∧ p ≤ b * r * t - 1)) ∧ (0 ≤ q ∧ q ≤ b * r * t - 1)) : apartOf b r t p q = apD r t p q := by
  unfold apartOf; rw [if_pos (inS2 h)]
def plB (b r t s : Int) : Int := if inS b r t s = true then s / t / r else -1
def plR (b r t s : Int) : Int := if inS b r t s = true then s / t % r else -1
def plT (b r t s : Int) : Int := if inS b r t s = true then s % t else -1
theorem inS_pl {b r t s : Int} (h : hv b r t = true ∧ 0 ≤ s ∧ s ≤ many b r t - 1) : inS b r t s = true := by simp only [inS, h, Bool.true_and, decide_eq_true_eq, and_self]
theorem inS_npl {b r t s : Int} (h : hv b r t = false ∨ ¬ (0 ≤ s ∧ s ≤ many b r t - 1)) : inS b r t s = false := by
  rcases h with h | h
  · exact inS_hv h
  · simp only [inS, decide_eq_false h, Bool.and_false]
theorem row_eq {r x y : Int} : (x / r = y / r ∧ x % r = y % r) ↔ x = y := by
  constructor
  · rintro ⟨h1, h2⟩
    rw [← Int.mul_ediv_add_emod x r, ← Int.mul_ediv_add_emod y r, h1, h2]
  · rintro rfl; exact ⟨rfl, rfl⟩

def c_impl_Hull_slots : Ctr where
  modes := [.v .p]
  al := false
  run := fun xs os => match xs, os with
    | [.agg [.int b, .int r, .int t]], [] => some ⟨hv b r t = true, .int (b * r * t), [], []⟩
    | _, _ => none
theorem m_impl_Hull_slots : Meets Try.prog 87 c_impl_Hull_slots := by
  refine meets_of (T := tyT) tyOK Try.func87 (by rfl) rfl (by decide) ?_
  intro args owns R hrun hpre
  simp only [c_impl_Hull_slots] at hrun
  split at hrun
  case h_2 => cases hrun
  rename_i b r t
  cases hrun
  try dsimp only at hpre
  refine ⟨_, rfl, fun E hP hnt hnp => ?_⟩
  replace hnt : E.nt = 11 := hnt
  replace hnp : E.np = 1 := hnp
  have hT : ∀ t d, tyT t = some d → TyOK E.P t d := hP ▸ tyOK
  have hG : ∀ f C, Γof [] f = some C → Meets E.P f C := hΓof (by rw [hP]; exact trivial)
  try simp only [show Try.f87.ntmps = 11 from rfl]
  have hb := hv_box hpre
  refine W_seq (fun K1 hK1 => ?_)
  refine W_region hT hG [] [1] ?_
  rw [hnt]
  simp only [baseS, eq_self, implies_true, if_true, if_false, reduceIte, Nat.reduceBEq, Nat.reduceEqDiff, Nat.reduceLT, Nat.reduceAdd, reduceCtorEq, tyInt, tdInt, tyHull, tdHull]
  repeat (refine And.intro ?_ ?_; focus (first | exact ordP (by kernel_rfl) | with_reducible exact rfl | assumption | trivial | (simp only [inR]; omega) | omega | (intro hh; (try obtain ⟨hh1, hh2⟩ := hh); (repeat' apply And.intro) <;> first | assumption | (simp only [inR]; omega) | omega | (intros; (repeat' apply And.intro) <;> first | assumption | (simp only [inR]; omega) | omega)) | (intros; (repeat' apply And.intro) <;> first | assumption | (simp only [inR]; omega) | omega | (simp_all; done) | (simp_all [inR]; omega))))
  refine hK1 _ ?_
  clear hK1
  refine W_seq (fun K2 hK2 => ?_)
  refine W_region hT hG [] [2] ?_
  rw [hnt]
  simp only [baseS, eq_self, implies_true, if_true, if_false, reduceIte, Nat.reduceBEq, Nat.reduceEqDiff, Nat.reduceLT, Nat.reduceAdd, reduceCtorEq, tyInt, tdInt, tyHull, tdHull]
  repeat (refine And.intro ?_ ?_; focus (first | exact ordP (by kernel_rfl) | with_reducible exact rfl | assumption | trivial | (simp only [inR]; omega) | omega | (intro hh; (try obtain ⟨hh1, hh2⟩ := hh); (repeat' apply And.intro) <;> first | assumption | (simp only [inR]; omega) | omega | (intros; (repeat' apply And.intro) <;> first | assumption | (simp only [inR]; omega) | omega)) | (intros; (repeat' apply And.intro) <;> first | assumption | (simp only [inR]; omega) | omega | (simp_all; done) | (simp_all [inR]; omega))))
  refine hK2 _ ?_
  clear hK2
  refine W_ret ?_
  simp only [thenQ, blockQ, loopQ, retQ, reduceIte, Nat.reduceEqDiff]
  refine ret0 ?_ rfl rfl (.inr rfl) rfl
  simp only [show Try.f87.results.toList = [ResultVar.tmp 2] from rfl, resAV, resL, look, Nat.reduceEqDiff, reduceIte, tyHull, tdHull, applyUps, noH, isStr, List.length_cons, List.length_nil, Nat.reduceAdd, and_self]
  all_goals (
    first | rfl | (simp_all; done))

def c_impl_Hull_stack : Ctr where
  modes := [.v .p, .v .p]
  al := false
  run := fun xs os => match xs, os with
    | [.agg [.int b, .int r, .int t], .int s], [] => some ⟨0 ≤ s ∧ s ≤ 9223372036854775807 ∧ 0 < t, .int (s / t), [], []⟩
    | _, _ => none
theorem m_impl_Hull_stack : Meets Try.prog 89 c_impl_Hull_stack := by
  refine meets_of (T := tyT) tyOK Try.func89 (by rfl) rfl (by decide) ?_
  intro args owns R hrun hpre
  simp only [c_impl_Hull_stack] at hrun
  split at hrun
  case h_2 => cases hrun
  rename_i b r t s
  cases hrun
  try dsimp only at hpre
  refine ⟨_, rfl, fun E hP hnt hnp => ?_⟩
  replace hnt : E.nt = 9 := hnt
  replace hnp : E.np = 2 := hnp
  have hT : ∀ t d, tyT t = some d → TyOK E.P t d := hP ▸ tyOK
  have hG : ∀ f C, Γof [] f = some C → Meets E.P f C := hΓof (by rw [hP]; exact trivial)
  try simp only [show Try.f89.ntmps = 9 from rfl]
  refine W_seq (fun K1 hK1 => ?_)
  refine W_region hT hG [] [1, 2] ?_
  rw [hnt]
  simp only [baseS, eq_self, implies_true, if_true, if_false, reduceIte, Nat.reduceBEq, Nat.reduceEqDiff, Nat.reduceLT, Nat.reduceAdd, reduceCtorEq, tyInt, tdInt, tyHull, tdHull]
  repeat (refine And.intro ?_ ?_; focus (first | exact ordP (by kernel_rfl) | with_reducible exact rfl | assumption | trivial | (simp only [inR]; omega) | omega | (intro hh; (try obtain ⟨hh1, hh2⟩ := hh); (repeat' apply And.intro) <;> first | assumption | (simp only [inR]; omega) | omega | (intros; (repeat' apply And.intro) <;> first | assumption | (simp only [inR]; omega) | omega)) | (intros; (repeat' apply And.intro) <;> first | assumption | (simp only [inR]; omega) | omega | (simp_all; done) | (simp_all [inR]; omega))))
  refine hK1 _ ?_
  clear hK1
  refine W_seq (fun K2 hK2 => ?_)
  refine W_region hT hG [] [4] ?_
  rw [hnt]
  simp only [baseS, eq_self, implies_true, if_true, if_false, reduceIte, Nat.reduceBEq, Nat.reduceEqDiff, Nat.reduceLT, Nat.reduceAdd, reduceCtorEq, tyInt, tdInt, tyHull, tdHull]
  repeat (refine And.intro ?_ ?_; focus (first | exact ordP (by kernel_rfl) | with_reducible exact rfl | assumption | trivial | (simp only [inR]; omega) | omega | (intro hh; (try obtain ⟨hh1, hh2⟩ := hh); (repeat' apply And.intro) <;> first | assumption | (simp only [inR]; omega) | omega | (intros; (repeat' apply And.intro) <;> first | assumption | (simp only [inR]; omega) | omega)) | (intros; (repeat' apply And.intro) <;> first | assumption | (simp only [inR]; omega) | omega | (simp_all; done) | (simp_all [inR]; omega))))
  refine hK2 _ ?_
  clear hK2
  refine W_ret ?_
  simp only [thenQ, blockQ, loopQ, retQ, reduceIte, Nat.reduceEqDiff]
  refine ret0 ?_ rfl rfl (.inr rfl) rfl
  simp only [show Try.f89.results.toList = [ResultVar.tmp 4] from rfl, resAV, resL, look, Nat.reduceEqDiff, reduceIte, tyHull, tdHull, applyUps, noH, isStr, List.length_cons, List.length_nil, Nat.reduceAdd, and_self]
  all_goals (
    first | rfl | (simp_all; done))

def c_spec_SlotMany : Ctr where
  modes := [.v .p]
  al := false
  run := fun xs os => match xs, os with
    | [.agg [.int b, .int r, .int t]], [] => some ⟨True, .int (many b r t), [], []⟩
    | _, _ => none
theorem m_spec_SlotMany : Meets Try.prog 83 c_spec_SlotMany := by
  refine meets_of (T := tyT) tyOK Try.func83 (by rfl) rfl (by decide) ?_
  intro args owns R hrun hpre
  simp only [c_spec_SlotMany] at hrun
  split at hrun
  case h_2 => cases hrun
  rename_i b r t
  cases hrun
  try dsimp only at hpre
  refine ⟨_, rfl, fun E hP hnt hnp => ?_⟩
  replace hnt : E.nt = 14 := hnt
  replace hnp : E.np = 1 := hnp
  have hT : ∀ t d, tyT t = some d → TyOK E.P t d := hP ▸ tyOK
  have hG : ∀ f C, Γof [(81, c_spec_HullValid)] f = some C → Meets E.P f C := hΓof (by rw [hP]; exact ⟨m_spec_HullValid, trivial⟩)
  try simp only [show Try.f83.ntmps = 14 from rfl]
  have hb := @hv_box b r t
  refine W_seq (fun K1 hK1 => ?_)
  refine W_region hT hG [] [1] ?_
  rw [hnt]
  simp only [baseS, eq_self, implies_true, if_true, if_false, reduceIte, Nat.reduceBEq, Nat.reduceEqDiff, Nat.reduceLT, Nat.reduceAdd, reduceCtorEq, tyInt, tdInt, tyHull, tdHull, c_spec_HullValid]
  repeat (refine And.intro ?_ ?_; focus (first | exact ordP (by kernel_rfl) | with_reducible exact rfl | assumption | trivial | (simp only [inR]; omega) | omega | (intro hh; (try obtain ⟨hh1, hh2⟩ := hh); (repeat' apply And.intro) <;> first | assumption | (simp only [inR]; omega) | omega | (intros; (repeat' apply And.intro) <;> first | assumption | (simp only [inR]; omega) | omega)) | (intros; (repeat' apply And.intro) <;> first | assumption | (simp only [inR]; omega) | omega | (simp_all; done) | (simp_all [inR]; omega))))
  refine hK1 _ ?_
  clear hK1
  refine W_seq (fun K2 hK2 => ?_)
  refine W_seq (fun K3 hK3 => ?_)
  refine W_region hT hG [] [1, 5] ?_
  rw [hnt]
  simp only [baseS, eq_self, implies_true, if_true, if_false, reduceIte, Nat.reduceBEq, Nat.reduceEqDiff, Nat.reduceLT, Nat.reduceAdd, reduceCtorEq, tyInt, tdInt, tyHull, tdHull, c_spec_HullValid]
  repeat (refine And.intro ?_ ?_; focus (first | exact ordP (by kernel_rfl) | with_reducible exact rfl | assumption | trivial | (simp only [inR]; omega) | omega | (intro hh; (try obtain ⟨hh1, hh2⟩ := hh); (repeat' apply And.intro) <;> first | assumption | (simp only [inR]; omega) | omega | (intros; (repeat' apply And.intro) <;> first | assumption | (simp only [inR]; omega) | omega)) | (intros; (repeat' apply And.intro) <;> first | assumption | (simp only [inR]; omega) | omega | (simp_all; done) | (simp_all [inR]; omega))))
  refine hK3 _ ?_
  clear hK3
  refine W_cond (b := _) rfl (fun hc4 => ?_) (fun hc4 => ?_)
  · try simp only [decide_eq_true_eq, decide_eq_false_iff_not, ne_eq, Decidable.not_not, Bool.not_eq_true', Bool.not_eq_false', Bool.or_eq_true, Bool.and_eq_true, Bool.or_eq_false_iff, Bool.and_eq_false_iff] at hc4
    refine W_seq (fun K5 hK5 => ?_)
    refine W_region hT hG [] [2] ?_
    rw [hnt]
    simp only [baseS, eq_self, implies_true, if_true, if_false, reduceIte, Nat.reduceBEq, Nat.reduceEqDiff, Nat.reduceLT, Nat.reduceAdd, reduceCtorEq, tyInt, tdInt, tyHull, tdHull, c_spec_HullValid]
    repeat (refine And.intro ?_ ?_; focus (first | exact ordP (by kernel_rfl) | with_reducible exact rfl | assumption | trivial | (simp only [inR]; omega) | omega | (intro hh; (try obtain ⟨hh1, hh2⟩ := hh); (repeat' apply And.intro) <;> first | assumption | (simp only [inR]; omega) | omega | (intros; (repeat' apply And.intro) <;> first | assumption | (simp only [inR]; omega) | omega)) | (intros; (repeat' apply And.intro) <;> first | assumption | (simp only [inR]; omega) | omega | (simp_all; done) | (simp_all [inR]; omega))))
    refine hK5 _ ?_
    clear hK5
    refine W_ret ?_
    simp only [thenQ, blockQ, loopQ, retQ, reduceIte, Nat.reduceEqDiff]
    refine ret0 ?_ rfl rfl (.inr rfl) rfl
    simp only [show Try.f83.results.toList = [ResultVar.tmp 2] from rfl, resAV, resL, look, Nat.reduceEqDiff, reduceIte, tyHull, tdHull, applyUps, noH, isStr, List.length_cons, List.length_nil, Nat.reduceAdd, and_self]
    all_goals (
      simp_all [many])
  · try simp only [decide_eq_true_eq, decide_eq_false_iff_not, ne_eq, Decidable.not_not, Bool.not_eq_true', Bool.not_eq_false', Bool.or_eq_true, Bool.and_eq_true, Bool.or_eq_false_iff, Bool.and_eq_false_iff] at hc4
    refine W_skip ?_
    simp only [thenQ, blockQ, loopQ, reduceIte, Nat.reduceEqDiff]
    refine hK2 _ ?_
    clear hK2
    refine W_seq (fun K6 hK6 => ?_)
    refine W_region hT hG [] [2] ?_
    rw [hnt]
    simp only [baseS, eq_self, implies_true, if_true, if_false, reduceIte, Nat.reduceBEq, Nat.reduceEqDiff, Nat.reduceLT, Nat.reduceAdd, reduceCtorEq, tyInt, tdInt, tyHull, tdHull, c_spec_HullValid]
    repeat (refine And.intro ?_ ?_; focus (first | exact ordP (by kernel_rfl) | with_reducible exact rfl | assumption | trivial | (simp only [inR]; omega) | omega | (intro hh; (try obtain ⟨hh1, hh2⟩ := hh); (repeat' apply And.intro) <;> first | assumption | (simp only [inR]; omega) | omega | (intros; (repeat' apply And.intro) <;> first | assumption | (simp only [inR]; omega) | omega)) | (intros; (repeat' apply And.intro) <;> first | assumption | (simp only [inR]; omega) | omega | (simp_all; done) | (simp_all [inR]; omega))))
    refine hK6 _ ?_
    clear hK6
    refine W_ret ?_
    simp only [thenQ, blockQ, loopQ, retQ, reduceIte, Nat.reduceEqDiff]
    refine ret0 ?_ rfl rfl (.inr rfl) rfl
    simp only [show Try.f83.results.toList = [ResultVar.tmp 2] from rfl, resAV, resL, look, Nat.reduceEqDiff, reduceIte, tyHull, tdHull, applyUps, noH, isStr, List.length_cons, List.length_nil, Nat.reduceAdd, and_self]
    all_goals (
      simp_all [many])

def c_spec_PlaceOf : Ctr where
  modes := [.v .p, .v .p]
  al := false
  run := fun xs os => match xs, os with
    | [.agg [.int b, .int r, .int t], .int s], [] => some ⟨True, .tup [.int (plB b r t s), .int (plR b r t s), .int (plT b r t s)], [], []⟩
    | _, _ => none
theorem m_spec_PlaceOf : Meets Try.prog 123 c_spec_PlaceOf := by
  refine meets_of (T := tyT) tyOK Try.func123 (by rfl) rfl (by decide) ?_
  intro args owns R hrun hpre
  simp only [c_spec_PlaceOf] at hrun
  split at hrun
  case h_2 => cases hrun
  rename_i b r t s
  cases hrun
  try dsimp only at hpre
  refine ⟨_, rfl, fun E hP hnt hnp => ?_⟩
  replace hnt : E.nt = 36 := hnt
  replace hnp : E.np = 2 := hnp
  have hT : ∀ t d, tyT t = some d → TyOK E.P t d := hP ▸ tyOK
  have hG : ∀ f C, Γof [(66, c_spec_l1In), (81, c_spec_HullValid), (83, c_spec_SlotMany)] f = some C → Meets E.P f C := hΓof (by rw [hP]; exact ⟨m_spec_l1In, m_spec_HullValid, m_spec_SlotMany, trivial⟩)
  try simp only [show Try.f123.ntmps = 36 from rfl]
  have hm := many_le b r t
  refine W_seq (fun K1 hK1 => ?_)
  refine W_region hT hG [] [1, 2] ?_
  rw [hnt]
  simp only [baseS, eq_self, implies_true, if_true, if_false, reduceIte, Nat.reduceBEq, Nat.reduceEqDiff, Nat.reduceLT, Nat.reduceAdd, reduceCtorEq, tyInt, tdInt, tyHull, tdHull, c_spec_l1In, c_spec_HullValid, c_spec_SlotMany]
  repeat (refine And.intro ?_ ?_; focus (first | exact ordP (by kernel_rfl) | with_reducible exact rfl | assumption | trivial | (simp only [inR]; omega) | omega | (intro hh; (try obtain ⟨hh1, hh2⟩ := hh); (repeat' apply And.intro) <;> first | assumption | (simp only [inR]; omega) | omega | (intros; (repeat' apply And.intro) <;> first | assumption | (simp only [inR]; omega) | omega)) | (intros; (repeat' apply And.intro) <;> first | assumption | (simp only [inR]; omega) | omega | (simp_all; done) | (simp_all [inR]; omega))))
  refine hK1 _ ?_
  clear hK1
  refine W_seq (fun K2 hK2 => ?_)
  refine W_seq (fun K3 hK3 => ?_)
  refine W_region hT hG [] [1, 2, 17] ?_
  rw [hnt]
  simp only [baseS, eq_self, implies_true, if_true, if_false, reduceIte, Nat.reduceBEq, Nat.reduceEqDiff, Nat.reduceLT, Nat.reduceAdd, reduceCtorEq, tyInt, tdInt, tyHull, tdHull, c_spec_l1In, c_spec_HullValid, c_spec_SlotMany]
  repeat (refine And.intro ?_ ?_; focus (first | exact ordP (by kernel_rfl) | with_reducible exact rfl | assumption | trivial | (simp only [inR]; omega) | omega | (intro hh; (try obtain ⟨hh1, hh2⟩ := hh); (repeat' apply And.intro) <;> first | assumption | (simp only [inR]; omega) | omega | (intros; (repeat' apply And.intro) <;> first | assumption | (simp only [inR]; omega) | omega)) | (intros; (repeat' apply And.intro) <;> first | assumption | (simp only [inR]; omega) | omega | (simp_all; done) | (simp_all [inR]; omega))))
  refine hK3 _ ?_
  clear hK3
  refine W_cond (b := _) rfl (fun hc4 => ?_) (fun hc4 => ?_)
  · try simp only [decide_eq_true_eq, decide_eq_false_iff_not, ne_eq, Decidable.not_not, Bool.not_eq_true', Bool.not_eq_false', Bool.or_eq_true, Bool.and_eq_true, Bool.or_eq_false_iff, Bool.and_eq_false_iff] at hc4
    refine W_seq (fun K5 hK5 => ?_)
    refine W_region hT hG [] [4, 5, 6] ?_
    rw [hnt]
    simp only [baseS, eq_self, implies_true, if_true, if_false, reduceIte, Nat.reduceBEq, Nat.reduceEqDiff, Nat.reduceLT, Nat.reduceAdd, reduceCtorEq, tyInt, tdInt, tyHull, tdHull, c_spec_l1In, c_spec_HullValid, c_spec_SlotMany]
    repeat (refine And.intro ?_ ?_; focus (first | exact ordP (by kernel_rfl) | with_reducible exact rfl | assumption | trivial | (simp only [inR]; omega) | omega | (intro hh; (try obtain ⟨hh1, hh2⟩ := hh); (repeat' apply And.intro) <;> first | assumption | (simp only [inR]; omega) | omega | (intros; (repeat' apply And.intro) <;> first | assumption | (simp only [inR]; omega) | omega)) | (intros; (repeat' apply And.intro) <;> first | assumption | (simp only [inR]; omega) | omega | (simp_all; done) | (simp_all [inR]; omega))))
    refine hK5 _ ?_
    clear hK5
    refine W_ret ?_
    simp only [thenQ, blockQ, loopQ, retQ, reduceIte, Nat.reduceEqDiff]
    refine ret0 ?_ rfl rfl (.inr rfl) rfl
    simp only [show Try.f123.results.toList = [ResultVar.tmp 4, ResultVar.tmp 5, ResultVar.tmp 6] from rfl, resAV, resL, look, Nat.reduceEqDiff, reduceIte, tyHull, tdHull, applyUps, noH, isStr, List.length_cons, List.length_nil, Nat.reduceAdd, and_self]
    all_goals (
      first | (have hi := inS_pl hc4; simp only [plB, plR, plT, hi, if_true]) | (have hi := inS_npl hc4; simp only [plB, plR, plT, hi, Bool.false_eq_true, if_false]))
  · try simp only [decide_eq_true_eq, decide_eq_false_iff_not, ne_eq, Decidable.not_not, Bool.not_eq_true', Bool.not_eq_false', Bool.or_eq_true, Bool.and_eq_true, Bool.or_eq_false_iff, Bool.and_eq_false_iff] at hc4
    refine W_skip ?_
    simp only [thenQ, blockQ, loopQ, reduceIte, Nat.reduceEqDiff]
    refine hK2 _ ?_
    clear hK2
    refine W_seq (fun K6 hK6 => ?_)
    refine W_region_draw hT hG (by rw [hP]; exact draws_ok) [] [4, 5, 6] ?_
    rw [hnt]
    simp only [baseS, eq_self, implies_true, if_true, if_false, reduceIte, Nat.reduceBEq, Nat.reduceEqDiff, Nat.reduceLT, Nat.reduceAdd, reduceCtorEq, tyInt, tdInt, tyHull, tdHull, c_spec_l1In, c_spec_HullValid, c_spec_SlotMany]
    have hi := inS_box (inS_pl hc4)
    repeat (refine And.intro ?_ ?_; focus (first | exact ordP (by kernel_rfl) | with_reducible exact rfl | assumption | trivial | (simp only [inR]; omega) | omega | (intro hh; (try obtain ⟨hh1, hh2⟩ := hh); (repeat' apply And.intro) <;> first | assumption | (simp only [inR]; omega) | omega | (intros; (repeat' apply And.intro) <;> first | assumption | (simp only [inR]; omega) | omega)) | (intros; (repeat' apply And.intro) <;> first | assumption | (simp only [inR]; omega) | omega | (simp_all; done) | (simp_all [inR]; omega))))
    refine hK6 _ ?_
    clear hK6
    refine W_ret ?_
    simp only [thenQ, blockQ, loopQ, retQ, reduceIte, Nat.reduceEqDiff]
    refine ret0 ?_ rfl rfl (.inr rfl) rfl
    simp only [show Try.f123.results.toList = [ResultVar.tmp 4, ResultVar.tmp 5, ResultVar.tmp 6] from rfl, resAV, resL, look, Nat.reduceEqDiff, reduceIte, tyHull, tdHull, applyUps, noH, isStr, List.length_cons, List.length_nil, Nat.reduceAdd, and_self]
    all_goals (
      first | (have hi := inS_pl hc4; simp only [plB, plR, plT, hi, if_true]) | (have hi := inS_npl hc4; simp only [plB, plR, plT, hi, Bool.false_eq_true, if_false]))

theorem pl_le (b r t s : Int) : -1 ≤ plB b r t s ∧ plB b r t s ≤ 35 := by
  unfold plB; split
  · rename_i h; have := inS_box h; omega
  · omega
theorem ap_facts (b r t p q : Int) : (plB b r t p = p / t / r ∧ 0 ≤ p / t / r ∧ plB b r t q = q / t / r ∧ 0 ≤ q / t / r ∧ ((plB b r t p = plB b r t q ∧ plR b r t p = plR b r t q) ↔ p / t = q / t) ∧ (p / t / r = q / t / r → p / t / r = q / t / r) ∧ apartOf b r t p q = apD r t p q) ∨ ((plB b r t p = -1 ∨ plB b r t q = -1) ∧ apartOf b r t p q = -1) := by
  cases hp : inS b r t p with
  | false => right; simp [plB, apartOf, hp]
  | true =>
    cases hq : inS b r t q with
    | false => right; simp [plB, apartOf, hq]
    | true =>
      left
      have h1 := inS_box hp
      have h2 := inS_box hq
      refine ⟨by simp [plB, hp], by omega, by simp [plB, hq], by omega, ?_, id, by simp [apartOf, hp, hq]⟩
      simp only [plB, plR, hp, hq, if_true]
      exact row_eq

end Go.Proofs.Ytpiaeckkjdcifaa
