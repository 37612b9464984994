/- Walks over boxes that are looked for, taken and listed. No condition. -/
import Derived.Test.YtpiaeckkjdcifaaPlanX
namespace Go.Proofs.Ytpiaeckkjdcifaa
open Go
set_option linter.unusedVariables false
set_option linter.unusedSimpArgs false

theorem findP_no {b r t n : Int} {bs : List BoxD} {p : List Int} (h : planB b r t bs p = false ∨ n < 1) : -1 = findP b r t bs p n := by
  unfold findP; rw [if_neg]
  rintro ⟨h1, h2⟩
  rcases h with h | h
  · rw [h] at h1; cases h1
  · omega
theorem findP_no2 {b r t n : Int} {bs : List BoxD} {p : List Int} (h : ¬ 0 < n ∨ planB b r t bs p = false) : -1 = findP b r t bs p n := findP_no (h.elim (fun h => .inr (by omega)) .inl)
theorem findP_yes {b r t n : Int} {bs : List BoxD} {p : List Int} (h : planB b r t bs p = true ∧ ¬ n < 1) : idxF p n 0 = findP b r t bs p n := by
  unfold findP; rw [if_pos ⟨h.1, by omega⟩]
theorem findP_end {b r t n : Int} {bs : List BoxD} {p : List Int} (h : idxF p n 0 = -1) : -1 = findP b r t bs p n := by
  unfold findP; split
  · exact h.symm
  · rfl
def findB (bs : List BoxD) (n : Int) : Int := if boxesB bs = true then findF bs n 0 else -1

theorem take_no {t s : Int} {p : List Int} (h : (¬ (0 ≤ s ∧ s ≤ (p.length : Int) - 1) ∨ p.getD s.toNat 0 = 0) ∨ (s % t < t - 1 ∧ ¬ p.getD (s + 1).toNat 0 = 0)) : ¬ ((0 ≤ s ∧ s ≤ (p.length : Int) - 1) ∧ p.getD s.toNat 0 ≠ 0 ∧ ¬ (s % t < t - 1 ∧ p.getD (s + 1).toNat 0 ≠ 0)) := by
  rintro ⟨h1, h2, h3⟩
  rcases h with (h | h) | h
  · exact h h1
  · exact h2 h
  · exact h3 h
theorem take_yes {t s : Int} {p : List Int} (h : ((0 ≤ s ∧ s ≤ (p.length : Int) - 1) ∧ ¬ p.getD s.toNat 0 = 0) ∧ (¬ s % t < t - 1 ∨ p.getD (s + 1).toNat 0 = 0)) : (0 ≤ s ∧ s ≤ (p.length : Int) - 1) ∧ p.getD s.toNat 0 ≠ 0 ∧ ¬ (s % t < t - 1 ∧ p.getD (s + 1).toNat 0 ≠ 0) :=
  ⟨h.1.1, h.1.2, fun hh => h.2.elim (fun h => h hh.1) (fun h => hh.2 h)⟩
theorem top_in {b r t : Int} {bs : List BoxD} {p : List Int} (h : PlanOK b r t bs p) {s : Int} (h1 : 0 ≤ s ∧ s ≤ (p.length : Int) - 1) (h2 : s % t < t - 1) : s + 1 < p.length := by
  have ht := hv_t h.ship
  have hl := h.len
  refine Classical.byContradiction fun hn => ?_
  have e : s + 1 = b * r * t := by omega
  have := emod_succ (s := s) (t := t) (by omega) h2
  have h3 : 0 ≤ s % t := Int.emod_nonneg _ (by omega)
  rw [e, Int.mul_emod_left] at this
  omega
theorem take_iff {b r t : Int} {bs : List BoxD} {p : List Int} (h : PlanOK b r t bs p) {s : Int} (h1 : 0 ≤ s ∧ s ≤ (p.length : Int) - 1) (h2 : ¬ p.getD s.toNat 0 = 0) : planB b r t bs (p.set s.toNat 0) = true ↔ ¬ (s % t < t - 1 ∧ p.getD (s + 1).toNat 0 ≠ 0) := by
  have hs : ((s.toNat : Nat) : Int) = s := by omega
  have := take_ok h (s := s.toNat) (by omega) h2
  rw [hs, show s.toNat + 1 = (s + 1).toNat by omega] at this
  exact this

theorem asc_bad {a : List Int} {i : Int} (h0 : 1 ≤ i) (h1 : i < a.length) (h : a.getD i.toNat 0 ≤ a.getD (i - 1).toNat 0) : false = ascB a := by
  symm
  cases hu : ascB a with
  | false => rfl
  | true =>
    exfalso
    rw [ascB, List.all_eq_true] at hu
    have := hu (i - 1).toNat (List.mem_range.2 (by omega))
    rw [decide_eq_true_eq, show (i - 1).toNat + 1 = i.toNat by omega] at this
    omega
theorem asc_end {a : List Int} {i : Int} (hI : ∀ k : Nat, (k : Int) + 1 < i → a.getD k 0 < a.getD (k + 1) 0) (h : ¬ i < a.length) : true = ascB a := by
  symm
  rw [ascB, List.all_eq_true]
  intro k hk
  have := List.mem_range.1 hk
  exact decide_eq_true (hI k (by omega))
theorem asc_next {a : List Int} {i : Int} (h0 : 1 ≤ i) (hI : ∀ k : Nat, (k : Int) + 1 < i → a.getD k 0 < a.getD (k + 1) 0) (h : ¬ a.getD i.toNat 0 ≤ a.getD (i - 1).toNat 0) : ∀ k : Nat, (k : Int) + 1 < i + 1 → a.getD k 0 < a.getD (k + 1) 0 := by
  intro k hk
  by_cases e : (k : Int) + 1 = i
  · have e1 : k = (i - 1).toNat := by omega
    have e2 : k + 1 = i.toNat := by omega
    rw [e2, e1]; omega
  · exact hI k (by omega)

end Go.Proofs.Ytpiaeckkjdcifaa
