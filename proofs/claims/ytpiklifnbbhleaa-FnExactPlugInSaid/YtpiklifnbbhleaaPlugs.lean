/- Walks over plugs. No condition. -/
import Derived.Test.YtpiklifnbbhleaaUses
import Derived.Test.YtpiklifnbbhleaaLists
namespace Go.Proofs.Ytpiklifnbbhleaa
open Go
set_option linter.unusedVariables false
set_option linter.unusedSimpArgs false

def plugOK (u : List (List Int)) (p : List Int) (k : Nat) : Bool := decide (p.getD k 0 = -1) || (decide (p.getD k 0 ∈ u.getD k []) && !decide (p.getD k 0 ∈ p.take k))
def plugsB (u : List (List Int)) (p : List Int) : Bool := usesB u && decide ((p.length : Int) = u.length) && (List.range p.length).all (plugOK u p)
theorem plugsB_no1 {u : List (List Int)} {p : List Int} (h : usesB u = false ∨ ¬ (p.length : Int) = u.length) : false = plugsB u p := by
  rcases h with h | h
  · simp [plugsB, h]
  · simp only [plugsB, decide_eq_false h, Bool.and_false, Bool.false_and]
theorem plugsB_yes {u : List (List Int)} {p : List Int} {i : Int} (h : usesB u = true ∧ (p.length : Int) = u.length) (hI : ∀ k : Nat, (k : Int) < i → plugOK u p k = true) (h1 : ¬ i < p.length) : true = plugsB u p := by
  have : (List.range p.length).all (plugOK u p) = true := by
    rw [List.all_eq_true]
    intro k hk
    exact hI k (by have := List.mem_range.1 hk; omega)
  simp only [plugsB, h.1, decide_eq_true h.2, this, Bool.and_self]
theorem plugsB_bad {u : List (List Int)} {p : List Int} {i : Int} (h0 : 0 ≤ i) (h1 : i < p.length) (h : plugOK u p i.toNat = false) : false = plugsB u p := by
  symm
  cases hu : plugsB u p with
  | false => rfl
  | true =>
    exfalso
    simp only [plugsB, Bool.and_eq_true, List.all_eq_true] at hu
    have := hu.2 i.toNat (List.mem_range.2 (by omega))
    rw [h] at this; cases this
theorem plugOK_not {u : List (List Int)} {p : List Int} {k : Nat} (h : ¬ p.getD k 0 = -1 ∧ (p.getD k 0 ∉ u.getD k [] ∨ p.getD k 0 ∈ p.take k)) : plugOK u p k = false := by
  obtain ⟨h1, h2⟩ := h
  rcases h2 with h2 | h2
  · simp only [plugOK, decide_eq_false h1, decide_eq_false h2, Bool.false_or, Bool.false_and]
  · simp only [plugOK, decide_eq_false h1, decide_eq_true h2, Bool.false_or, Bool.not_true, Bool.and_false]
theorem plugOK_of {u : List (List Int)} {p : List Int} {k : Nat} (h : p.getD k 0 = -1 ∨ (p.getD k 0 ∈ u.getD k [] ∧ p.getD k 0 ∉ p.take k)) : plugOK u p k = true := by
  rcases h with h1 | ⟨h2, h3⟩
  · simp only [plugOK, decide_eq_true h1, Bool.true_or]
  · simp only [plugOK, decide_eq_true h2, decide_eq_false h3, Bool.not_false, Bool.and_true, Bool.or_true]
theorem plug_next {u : List (List Int)} {p : List Int} {i : Int} (h0 : 0 ≤ i) (h : ∀ k : Nat, (k : Int) < i → plugOK u p k = true) (h1 : plugOK u p i.toNat = true) : ∀ k : Nat, (k : Int) < i + 1 → plugOK u p k = true := by
  intro k hk
  by_cases e : (k : Int) = i
  · have : k = i.toNat := by omega
    rw [this]; exact h1
  · exact h k (by omega)

end Go.Proofs.Ytpiklifnbbhleaa
