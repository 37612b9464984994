/- Walks over the functions of a ship's slots. No condition. -/
import Derived.Test.YtpiklifnbbhleaaWalk
namespace Go.Proofs.Ytpiklifnbbhleaa
open Go
set_option linter.unusedVariables false
set_option linter.unusedSimpArgs false

/-- Is it a ship? -/
def hv (b r t : Int) : Bool := decide (1 ≤ b ∧ b ≤ 4 ∧ 1 ≤ r ∧ r ≤ 3 ∧ 1 ≤ t ∧ t ≤ 3)
theorem mul_box {b r : Int} {m n : Int} (h1 : 1 ≤ b) (h2 : b ≤ m) (h3 : 1 ≤ r) (h4 : r ≤ n) : 1 ≤ b * r ∧ b * r ≤ m * n :=
  ⟨by have := Int.mul_le_mul h1 h3 (by omega) (by omega); omega, Int.mul_le_mul h2 h4 (by omega) (by omega)⟩
theorem hv_box {b r t : Int} (h : hv b r t = true) : 1 ≤ b ∧ b ≤ 4 ∧ 1 ≤ r ∧ r ≤ 3 ∧ 1 ≤ t ∧ t ≤ 3 ∧ 1 ≤ b * r ∧ b * r ≤ 12 ∧ 1 ≤ b * r * t ∧ b * r * t ≤ 36 := by
  simp only [hv, decide_eq_true_eq] at h
  obtain ⟨h1, h2, h3, h4, h5, h6⟩ := h
  obtain ⟨h7, h8⟩ := mul_box h1 h2 h3 h4
  obtain ⟨h9, h10⟩ := mul_box h7 h8 h5 h6
  exact ⟨h1, h2, h3, h4, h5, h6, h7, by omega, h9, by omega⟩

def c_impl_within : Ctr where
  modes := [.v .p, .v .p, .v .p]
  al := false
  run := fun xs os => match xs, os with
    | [.int a, .int b, .int c], [] => some ⟨True, .bool (decide (b ≤ a ∧ a ≤ c)), [], []⟩
    | _, _ => none
theorem m_impl_within : Meets Try.prog 24 c_impl_within := by
  refine meets_of (T := tyT) tyOK Try.func24 (by rfl) rfl (by decide) ?_
  intro args owns R hrun hpre
  simp only [c_impl_within] at hrun
  split at hrun
  case h_2 => cases hrun
  rename_i a b c
  cases hrun
  try dsimp only at hpre
  refine ⟨_, rfl, fun E hP hnt hnp => ?_⟩
  replace hnt : E.nt = 15 := hnt
  replace hnp : E.np = 3 := hnp
  have hT : ∀ t d, tyT t = some d → TyOK E.P t d := hP ▸ tyOK
  have hG : ∀ f C, Γof [] f = some C → Meets E.P f C := hΓof (by rw [hP]; exact trivial)
  try simp only [show Try.f24.ntmps = 15 from rfl]
  refine W_seq (fun K1 hK1 => ?_)
  refine W_region hT hG [] [0, 1, 2] ?_
  rw [hnt]
  simp only [baseS, eq_self, implies_true, if_true, if_false, reduceIte, Nat.reduceBEq, Nat.reduceEqDiff, Nat.reduceLT, Nat.reduceAdd, reduceCtorEq, tyInt, tdInt]
  repeat (refine And.intro ?_ ?_; focus (first | exact ordP (by kernel_rfl) | with_reducible exact rfl | assumption | trivial | (simp only [inR]; omega) | omega | (intro hh; (try obtain ⟨hh1, hh2⟩ := hh); (repeat' apply And.intro) <;> first | assumption | (simp only [inR]; omega) | omega | (intros; (repeat' apply And.intro) <;> first | assumption | (simp only [inR]; omega) | omega)) | (intros; (repeat' apply And.intro) <;> first | assumption | (simp only [inR]; omega) | omega | (simp_all; done) | (simp_all [inR]; omega))))
  refine hK1 _ ?_
  clear hK1
  refine W_seq (fun K2 hK2 => ?_)
  refine W_region hT hG [] [6] ?_
  rw [hnt]
  simp only [baseS, eq_self, implies_true, if_true, if_false, reduceIte, Nat.reduceBEq, Nat.reduceEqDiff, Nat.reduceLT, Nat.reduceAdd, reduceCtorEq, tyInt, tdInt]
  repeat (refine And.intro ?_ ?_; focus (first | exact ordP (by kernel_rfl) | with_reducible exact rfl | assumption | trivial | (simp only [inR]; omega) | omega | (intro hh; (try obtain ⟨hh1, hh2⟩ := hh); (repeat' apply And.intro) <;> first | assumption | (simp only [inR]; omega) | omega | (intros; (repeat' apply And.intro) <;> first | assumption | (simp only [inR]; omega) | omega)) | (intros; (repeat' apply And.intro) <;> first | assumption | (simp only [inR]; omega) | omega | (simp_all; done) | (simp_all [inR]; omega))))
  refine hK2 _ ?_
  clear hK2
  refine W_ret ?_
  simp only [thenQ, blockQ, loopQ, retQ, reduceIte, Nat.reduceEqDiff]
  refine ret0 ?_ rfl rfl (.inr rfl) rfl
  simp only [show Try.f24.results.toList = [ResultVar.tmp 6] from rfl, resAV, resL, look, Nat.reduceEqDiff, reduceIte, applyUps, noH, isStr, List.length_cons, List.length_nil, Nat.reduceAdd, and_self]
  all_goals (
    by_cases h1 : b ≤ a <;> by_cases h2 : a ≤ c <;> simp [h1, h2])

def c_spec_l1In : Ctr where
  modes := [.v .p, .v .p, .v .p]
  al := false
  run := fun xs os => match xs, os with
    | [.int a, .int b, .int c], [] => some ⟨True, .bool (decide (b ≤ a ∧ a ≤ c)), [], []⟩
    | _, _ => none
theorem m_spec_l1In : Meets Try.prog 22 c_spec_l1In := by
  refine meets_of (T := tyT) tyOK Try.func22 (by rfl) rfl (by decide) ?_
  intro args owns R hrun hpre
  simp only [c_spec_l1In] at hrun
  split at hrun
  case h_2 => cases hrun
  rename_i a b c
  cases hrun
  try dsimp only at hpre
  refine ⟨_, rfl, fun E hP hnt hnp => ?_⟩
  replace hnt : E.nt = 15 := hnt
  replace hnp : E.np = 3 := hnp
  have hT : ∀ t d, tyT t = some d → TyOK E.P t d := hP ▸ tyOK
  have hG : ∀ f C, Γof [] f = some C → Meets E.P f C := hΓof (by rw [hP]; exact trivial)
  try simp only [show Try.f22.ntmps = 15 from rfl]
  refine W_seq (fun K1 hK1 => ?_)
  refine W_region hT hG [] [0, 1, 2] ?_
  rw [hnt]
  simp only [baseS, eq_self, implies_true, if_true, if_false, reduceIte, Nat.reduceBEq, Nat.reduceEqDiff, Nat.reduceLT, Nat.reduceAdd, reduceCtorEq, tyInt, tdInt]
  repeat (refine And.intro ?_ ?_; focus (first | exact ordP (by kernel_rfl) | with_reducible exact rfl | assumption | trivial | (simp only [inR]; omega) | omega | (intro hh; (try obtain ⟨hh1, hh2⟩ := hh); (repeat' apply And.intro) <;> first | assumption | (simp only [inR]; omega) | omega | (intros; (repeat' apply And.intro) <;> first | assumption | (simp only [inR]; omega) | omega)) | (intros; (repeat' apply And.intro) <;> first | assumption | (simp only [inR]; omega) | omega | (simp_all; done) | (simp_all [inR]; omega))))
  refine hK1 _ ?_
  clear hK1
  refine W_seq (fun K2 hK2 => ?_)
  refine W_region hT hG [] [6] ?_
  rw [hnt]
  simp only [baseS, eq_self, implies_true, if_true, if_false, reduceIte, Nat.reduceBEq, Nat.reduceEqDiff, Nat.reduceLT, Nat.reduceAdd, reduceCtorEq, tyInt, tdInt]
  repeat (refine And.intro ?_ ?_; focus (first | exact ordP (by kernel_rfl) | with_reducible exact rfl | assumption | trivial | (simp only [inR]; omega) | omega | (intro hh; (try obtain ⟨hh1, hh2⟩ := hh); (repeat' apply And.intro) <;> first | assumption | (simp only [inR]; omega) | omega | (intros; (repeat' apply And.intro) <;> first | assumption | (simp only [inR]; omega) | omega)) | (intros; (repeat' apply And.intro) <;> first | assumption | (simp only [inR]; omega) | omega | (simp_all; done) | (simp_all [inR]; omega))))
  refine hK2 _ ?_
  clear hK2
  refine W_ret ?_
  simp only [thenQ, blockQ, loopQ, retQ, reduceIte, Nat.reduceEqDiff]
  refine ret0 ?_ rfl rfl (.inr rfl) rfl
  simp only [show Try.f22.results.toList = [ResultVar.tmp 6] from rfl, resAV, resL, look, Nat.reduceEqDiff, reduceIte, applyUps, noH, isStr, List.length_cons, List.length_nil, Nat.reduceAdd, and_self]
  all_goals (
    by_cases h1 : b ≤ a <;> by_cases h2 : a ≤ c <;> simp [h1, h2])

/-- How many slots a ship has. -/
def many (b r t : Int) : Int := if hv b r t = true then b * r * t else -1
theorem div_le {s t : Int} (h0 : 0 ≤ s) (ht : 0 < t) : 0 ≤ s / t ∧ s / t ≤ s := ⟨Int.ediv_nonneg h0 (by omega), Int.ediv_le_self _ h0⟩
/-- A slot of the ship? -/
def inS (b r t s : Int) : Bool := hv b r t && decide (0 ≤ s ∧ s ≤ many b r t - 1)
theorem many_le (b r t : Int) : -1 ≤ many b r t ∧ many b r t ≤ 36 := by
  unfold many; split
  · rename_i h; have := hv_box h; omega
  · omega
theorem inS_box {b r t s : Int} (h : inS b r t s = true) : hv b r t = true ∧ 0 ≤ s ∧ s ≤ 35 ∧ 1 ≤ r ∧ r ≤ 3 ∧ 1 ≤ t ∧ t ≤ 3 ∧ 0 ≤ s / t ∧ s / t ≤ 35 ∧ 0 ≤ s / t / r ∧ s / t / r ≤ 35 ∧ s ≤ b * r * t - 1 := by
  simp only [inS, Bool.and_eq_true, decide_eq_true_eq] at h
  obtain ⟨h1, h2, h3⟩ := h
  simp only [many, h1, if_true] at h3
  obtain ⟨_, _, h4, h5, h6, h7, _, _, _, h8⟩ := hv_box h1
  have h9 := div_le h2 (show 0 < t by omega)
  have h10 := div_le h9.1 (show 0 < r by omega)
  exact ⟨h1, h2, by omega, h4, h5, h6, h7, h9.1, by omega, h10.1, by omega, h3⟩
/-- How far two slots are apart. -/
def apD (r t p q : Int) : Int := if p / t = q / t then 0 else if p / t / r = q / t / r then 1 else if p / t / r - q / t / r = 1 ∨ q / t / r - p / t / r = 1 then 2 else 3
def apartOf (b r t p q : Int) : Int := if (inS b r t p && inS b r t q) = true then apD r t p q else -1
theorem inS_of {b r t p : Int} (h1 : hv b r t = true) (h2 : 0 ≤ p ∧ p ≤ b * r * t - 1) : inS b r t p = true := by
  simp only [inS, many, h1, if_true, Bool.true_and, decide_eq_true_eq]; exact h2
theorem inS_not {b r t p : Int} (h1 : hv b r t = true) (h2 : ¬ (0 ≤ p ∧ p ≤ b * r * t - 1)) : inS b r t p = false := by
  simp only [inS, many, h1, if_true, Bool.true_and, decide_eq_false_iff_not]; exact h2
theorem inS_hv {b r t p : Int} (h1 : hv b r t = false) : inS b r t p = false := by simp [inS, h1]
theorem apartOf_no {b r t p q : Int} (h : (hv b r t = false ∨ ¬ (0 ≤ p ∧ p ≤ b * r * t - 1)) ∨ ¬ (0 ≤ q ∧ q ≤ b * r * t - 1)) : apartOf b r t p q = -1 := by
  unfold apartOf
  cases h0 : hv b r t with
  | false => simp [inS_hv h0]
  | true =>
    rcases h with (h | h) | h
    · rw [h0] at h; cases h
    · simp [inS_not h0 h]
    · simp [inS_not h0 h]
theorem inS2 {b r t p q : Int} (h : (hv b r t = true ∧ (0 ≤ p ∧ p ≤ b * r * t - 1)) ∧ (0 ≤ q ∧ q ≤ b * r * t - 1)) : (inS b r t p && inS b r t q) = true := by
  rw [inS_of h.1.1 h.1.2, inS_of h.1.1 h.2]; rfl
theorem apartOf_yes {b r t p q : Int} (h : (hv b r t = true ∧ (0 ≤ p ∧ p ≤ b * r * t - 1)) ∧ (0 ≤ q ∧ q ≤ b * r * t - 1)) : apartOf b r t p q = apD r t p q := by
  unfold apartOf; rw [if_pos (inS2 h)]
def plB (b r t s : Int) : Int := if inS b r t s = true then s / t / r else -1
def plR (b r t s : Int) : Int := if inS b r t s = true then s / t % r else -1
def plT (b r t s : Int) : Int := if inS b r t s = true then s % t else -1
theorem inS_pl {b r t s : Int} (h : hv b r t = true ∧ 0 ≤ s ∧ s ≤ many b r t - 1) : inS b r t s = true := by simp only [inS, h, Bool.true_and, decide_eq_true_eq, and_self]
theorem inS_npl {b r t s : Int} (h : hv b r t = false ∨ ¬ (0 ≤ s ∧ s ≤ many b r t - 1)) : inS b r t s = false := by
  rcases h with h | h
  · exact inS_hv h
  · simp only [inS, decide_eq_false h, Bool.and_false]
theorem row_eq {r x y : Int} : (x / r = y / r ∧ x % r = y % r) ↔ x = y := by
  constructor
  · rintro ⟨h1, h2⟩
    rw [← Int.mul_ediv_add_emod x r, ← Int.mul_ediv_add_emod y r, h1, h2]
  · rintro rfl; exact ⟨rfl, rfl⟩

theorem pl_le (b r t s : Int) : -1 ≤ plB b r t s ∧ plB b r t s ≤ 35 := by
  unfold plB; split
  · rename_i h; have := inS_box h; omega
  · omega
theorem ap_facts (b r t p q : Int) : (plB b r t p = p / t / r ∧ 0 ≤ p / t / r ∧ plB b r t q = q / t / r ∧ 0 ≤ q / t / r ∧ ((plB b r t p = plB b r t q ∧ plR b r t p = plR b r t q) ↔ p / t = q / t) ∧ (p / t / r = q / t / r → p / t / r = q / t / r) ∧ apartOf b r t p q = apD r t p q) ∨ ((plB b r t p = -1 ∨ plB b r t q = -1) ∧ apartOf b r t p q = -1) := by
  cases hp : inS b r t p with
  | false => right; simp [plB, apartOf, hp]
  | true =>
    cases hq : inS b r t q with
    | false => right; simp [plB, apartOf, hq]
    | true =>
      left
      have h1 := inS_box hp
      have h2 := inS_box hq
      refine ⟨by simp [plB, hp], by omega, by simp [plB, hq], by omega, ?_, id, by simp [apartOf, hp, hq]⟩
      simp only [plB, plR, hp, hq, if_true]
      exact row_eq

end Go.Proofs.Ytpiklifnbbhleaa
