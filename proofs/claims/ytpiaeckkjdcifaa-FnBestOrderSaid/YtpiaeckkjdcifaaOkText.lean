/- Plain laws of orders of loading. No condition. -/
import Derived.Test.YtpiaeckkjdcifaaLoadA
namespace Go.Proofs.Ytpiaeckkjdcifaa
open Go
set_option linter.unusedVariables false
set_option linter.unusedSimpArgs false

/-- The slots with a box. -/
def fullP (p : List Int) (k : Nat) : Bool := decide (p.getD k 0 ≠ 0)
def fullS (p : List Int) : List Int := selTo (fullP p) p.length
/-- The k-th slot of an order is as it has to be. -/
def ordB (t : Int) (p o : List Int) (k : Nat) : Bool := (decide (0 ≤ o.getD k 0 ∧ o.getD k 0 ≤ (p.length : Int) - 1) && decide (p.getD (o.getD k 0).toNat 0 ≠ 0) && !decide (o.getD k 0 ∈ o.take k)) && !(decide (0 < o.getD k 0 % t) && !decide (o.getD k 0 - 1 ∈ o.take k))
def loadB (b r t : Int) (bs : List BoxD) (p o : List Int) : Bool := planB b r t bs p && decide ((o.length : Int) = (fullS p).length) && (List.range o.length).all (ordB t p o)
theorem ord_of {t : Int} {p o : List Int} {k : Nat} (h1 : ((0 ≤ o.getD k 0 ∧ o.getD k 0 ≤ (p.length : Int) - 1) ∧ ¬ p.getD (o.getD k 0).toNat 0 = 0) ∧ o.getD k 0 ∉ o.take k) (h2 : ¬ 0 < o.getD k 0 % t ∨ o.getD k 0 - 1 ∈ o.take k) : ordB t p o k = true := by
  rw [ordB, decide_eq_true h1.1.1, decide_eq_true h1.1.2, decide_eq_false h1.2]
  rcases h2 with h2 | h2
  · rw [decide_eq_false h2]; rfl
  · rw [decide_eq_true h2]; simp
theorem ord_no1 {t : Int} {p o : List Int} {k : Nat} (h : (¬ (0 ≤ o.getD k 0 ∧ o.getD k 0 ≤ (p.length : Int) - 1) ∨ p.getD (o.getD k 0).toNat 0 = 0) ∨ o.getD k 0 ∈ o.take k) : ordB t p o k = false := by
  rw [ordB]
  rcases h with (h | h) | h
  · rw [decide_eq_false h]; rfl
  · have hf : decide (p.getD (o.getD k 0).toNat 0 ≠ 0) = false := decide_eq_false (fun hn => hn h)
    rw [hf, Bool.and_false]; rfl
  · rw [decide_eq_true h]; simp
theorem ord_no2 {t : Int} {p o : List Int} {k : Nat} (h : 0 < o.getD k 0 % t ∧ o.getD k 0 - 1 ∉ o.take k) : ordB t p o k = false := by
  rw [ordB, decide_eq_true h.1, decide_eq_false h.2]; simp
theorem load_bad {b r t : Int} {bs : List BoxD} {p o : List Int} {i : Int} (h0 : 0 ≤ i) (h1 : i < o.length) (h : ordB t p o i.toNat = false) : false = loadB b r t bs p o := by
  symm
  cases hu : loadB b r t bs p o with
  | false => rfl
  | true =>
    exfalso
    simp only [loadB, Bool.and_eq_true, List.all_eq_true] at hu
    have := hu.2 i.toNat (List.mem_range.2 (by omega))
    rw [h] at this; cases this
theorem load_all {t : Int} {p o : List Int} {i : Int} (hI : ∀ k : Nat, (k : Int) < i → ordB t p o k = true) (h1 : ¬ i < o.length) : (List.range o.length).all (ordB t p o) = true := by
  rw [List.all_eq_true]
  intro k hk
  exact hI k (by have := List.mem_range.1 hk; omega)
theorem load_end {b r t : Int} {bs : List BoxD} {p o : List Int} {i : Int} (h : planB b r t bs p = true) (hI : ∀ k : Nat, (k : Int) < i → ordB t p o k = true) (h1 : ¬ i < o.length) : decide ((o.length : Int) = (fullS p).length) = loadB b r t bs p o := by
  rw [loadB, h, load_all hI h1, Bool.true_and, Bool.and_true]
/-- The ids of a plan, in the order of their slots. -/
def idsTo (p : List Int) : Nat → List Int
  | 0 => []
  | n + 1 => if p.getD n 0 ≠ 0 then idsTo p n ++ [p.getD n 0] else idsTo p n
theorem idsTo_len (p : List Int) : ∀ n, (idsTo p n).length = (selTo (fullP p) n).length
  | 0 => rfl
  | n + 1 => by
    rw [idsTo, selTo, fullP]
    by_cases h : p.getD n 0 ≠ 0
    · rw [if_pos h, if_pos (decide_eq_true h), List.length_append, List.length_append, idsTo_len p n]; rfl
    · rw [if_neg h, if_neg (by rw [decide_eq_false h]; simp), idsTo_len p n]
theorem idsTo_step {p : List Int} {i : Int} (h : 0 ≤ i) : idsTo p (i + 1).toNat = if p.getD i.toNat 0 ≠ 0 then idsTo p i.toNat ++ [p.getD i.toNat 0] else idsTo p i.toNat := by
  have e : (i + 1).toNat = i.toNat + 1 := by omega
  rw [e, idsTo]
def idsR (b r t : Int) (bs : List BoxD) (p : List Int) : List Int := if planB b r t bs p = true then idsTo p p.length else []
theorem bel_of {b r t : Int} {bs : List BoxD} {p : List Int} (hok : PlanOK b r t bs p) {x : Int} (h : 0 ≤ x ∧ x ≤ (p.length : Int) - 1) : belF b r t x = if 0 < x % t then x - 1 else -1 := by
  have := hok.len
  exact belF_in hok.ship h.1 (by omega)
theorem bel_mem {t s x : Int} {l : List Int} (hx : x = if 0 < s % t then s - 1 else -1) (hs : 0 ≤ s) : (0 ≤ x ∧ x ∉ l) ↔ (0 < s % t ∧ s - 1 ∉ l) := by
  by_cases h : 0 < s % t
  · rw [if_pos h] at hx
    subst hx
    have hi : s ≠ 0 := by intro e; subst e; simp at h
    exact ⟨fun h2 => ⟨h, h2.2⟩, fun h2 => ⟨by omega, h2.2⟩⟩
  · rw [if_neg h] at hx
    exact ⟨fun h2 => by omega, fun h2 => absurd h2.1 h⟩
theorem bel_mem2 {t s x : Int} {l : List Int} (hx : x = if 0 < s % t then s - 1 else -1) (hs : 0 ≤ s) (h : ¬ 0 ≤ x ∨ x ∈ l) : ¬ 0 < s % t ∨ s - 1 ∈ l := by
  by_cases h1 : 0 < s % t
  · right
    by_cases h2 : s - 1 ∈ l
    · exact h2
    · have := (bel_mem hx hs).2 ⟨h1, h2⟩
      rcases h with h | h
      · exact absurd this.1 h
      · exact absurd h this.2
  · exact .inl h1

end Go.Proofs.Ytpiaeckkjdcifaa
