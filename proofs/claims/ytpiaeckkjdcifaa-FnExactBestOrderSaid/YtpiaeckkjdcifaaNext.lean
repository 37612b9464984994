/- Walks over the next slots of a plan. No condition. -/
import Derived.Test.YtpiaeckkjdcifaaOkText
namespace Go.Proofs.Ytpiaeckkjdcifaa
open Go
set_option linter.unusedVariables false
set_option linter.unusedSimpArgs false

/-- A slot into which a box can be put. -/
def nextB (t : Int) (p : List Int) (k : Nat) : Bool := decide (p.getD k 0 = 0) && (decide ((k : Int) % t = 0) || decide (p.getD (k - 1) 0 ≠ 0))
def nextR (b r t : Int) (bs : List BoxD) (p : List Int) : List Int := if planB b r t bs p = true then selTo (nextB t p) p.length else []
theorem next_eq {t i : Int} {p : List Int} (h : 0 ≤ i) : nextB t p i.toNat = (decide (p.getD i.toNat 0 = 0) && (decide (i % t = 0) || decide (p.getD (i - 1).toNat 0 ≠ 0))) := by
  have e : i.toNat - 1 = (i - 1).toNat := by omega
  rw [nextB, Int.toNat_of_nonneg h, e]
theorem next_yes {t i : Int} {p : List Int} (h : 0 ≤ i) (h1 : p.getD i.toNat 0 = 0 ∧ (i % t = 0 ∨ ¬ p.getD (i - 1).toNat 0 = 0)) : nextB t p i.toNat = true := by
  rw [next_eq h, decide_eq_true h1.1, Bool.true_and, Bool.or_eq_true, decide_eq_true_eq, decide_eq_true_eq]
  exact h1.2
theorem next_no {t i : Int} {p : List Int} (h : 0 ≤ i) (h1 : ¬ p.getD i.toNat 0 = 0 ∨ (¬ i % t = 0 ∧ p.getD (i - 1).toNat 0 = 0)) : nextB t p i.toNat = false := by
  rw [next_eq h]
  rcases h1 with h1 | h1
  · rw [decide_eq_false h1, Bool.false_and]
  · have hf : decide (p.getD (i - 1).toNat 0 ≠ 0) = false := decide_eq_false (fun hn => hn h1.2)
    rw [decide_eq_false h1.1, hf]; simp
theorem PlanOK.pos {b r t : Int} {bs : List BoxD} {p : List Int} (h : PlanOK b r t bs p) (k : Nat) : p.getD k 0 = 0 ∨ 0 < p.getD k 0 := by
  rcases h.inb k with h1 | h1
  · exact .inl h1
  · right
    have h2 := findF_id bs (p.getD k 0) 0 (by omega) h1
    have h3 := findF_lt h1
    have h4 := boxB_le ((boxesB_get h.boxes).2 (findF bs (p.getD k 0) 0 - 0).toNat (by omega))
    rw [h2] at h4
    omega
theorem next_bel {t i x : Int} {p : List Int} (ht : 1 ≤ t) (hx : x = if 0 < i % t then i - 1 else -1) (h : 0 ≤ i) (hpos : ∀ k, p.getD k 0 = 0 ∨ 0 < p.getD k 0) : (x < 0 ∨ 0 < p.getD x.toNat 0) ↔ (i % t = 0 ∨ ¬ p.getD (i - 1).toNat 0 = 0) := by
  have hm : 0 ≤ i % t := Int.emod_nonneg _ (by omega)
  by_cases h2 : 0 < i % t
  · have hi : i ≠ 0 := by intro e; subst e; simp at h2
    rw [if_pos h2] at hx
    subst hx
    have := hpos (i - 1).toNat
    omega
  · rw [if_neg h2] at hx
    omega
theorem nextR_len (b r t : Int) (bs : List BoxD) (p : List Int) : (nextR b r t bs p).length ≤ p.length := by
  unfold nextR; split
  · exact selTo_len _ _
  · simp

end Go.Proofs.Ytpiaeckkjdcifaa
