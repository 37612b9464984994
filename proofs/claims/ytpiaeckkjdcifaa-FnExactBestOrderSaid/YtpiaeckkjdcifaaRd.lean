/- Walks over the reader of drawn codes. No condition. -/
import Derived.Test.YtpiaeckkjdcifaaHull
namespace Go.Proofs.Ytpiaeckkjdcifaa
open Go
set_option linter.unusedVariables false
set_option linter.unusedSimpArgs false

/-- The mixture past the code's end. -/
def mixV (b : List Int) (k : Int) : Int := b.getD (k % b.length).toNat 0 * 131 + b.getD ((k * 7 + 3) % b.length).toNat 0 * 1117 + k * 29 + k / b.length * 53
def xorV (x : Int) : Int := ((x.toNat ^^^ (x / 64).toNat : Nat) : Int)
def pickV (b : List Int) (p n : Int) : Int := if n < 1 ∨ (b.length : Int) = 0 then 0 else if p < b.length then b.getD p.toNat 0 % n else xorV (mixV b p) % n
def codeOK (b : List Int) : Prop := b.length ≤ 2000 ∧ ∀ x ∈ b, 0 ≤ x ∧ x ≤ 255
theorem codeOK_get {b : List Int} (h : codeOK b) (k : Nat) : 0 ≤ b.getD k 0 ∧ b.getD k 0 ≤ 255 := by
  rw [List.getD_eq_getElem?_getD]
  cases hx : b[k]? with
  | none => simp
  | some x => exact h.2 x (List.mem_of_getElem? hx)
theorem take_short {α : Type} {b : List α} {n : Nat} (h : b.length ≤ n) : b.take n = b := List.take_of_length_le h
theorem mix_facts {b : List Int} {k : Int} (h : codeOK b) (hn : ¬ (b.length : Int) = 0) (h0 : 0 ≤ k) (h1 : k ≤ 1000000) :
    0 ≤ k % b.length ∧ k % b.length < b.length ∧ 0 ≤ (k * 7 + 3) % b.length ∧ (k * 7 + 3) % b.length < b.length ∧ 0 ≤ k / b.length ∧ k / b.length ≤ 1000000 ∧ 0 ≤ b.getD (k % b.length).toNat 0 ∧ b.getD (k % b.length).toNat 0 ≤ 255 ∧ 0 ≤ b.getD ((k * 7 + 3) % b.length).toNat 0 ∧ b.getD ((k * 7 + 3) % b.length).toNat 0 ≤ 255 := by
  have hl : 0 < (b.length : Int) := by omega
  have h2 := codeOK_get h (k % b.length).toNat
  have h3 := codeOK_get h ((k * 7 + 3) % b.length).toNat
  have h4 := Int.ediv_le_self (a := k) b.length h0
  exact ⟨Int.emod_nonneg _ hn, Int.emod_lt_of_pos _ hl, Int.emod_nonneg _ hn, Int.emod_lt_of_pos _ hl, Int.ediv_nonneg h0 (by omega), by omega, h2.1, h2.2, h3.1, h3.2⟩

/-- Once in n calls on average. -/
def oddB (b : List Int) (p n : Int) : Bool := decide (0 < n) && decide (pickV b p n = n - 1)
def oddP (p n : Int) : Int := if 0 < n then p + 1 else p

/-- A drawn ship: three numbers, and where the reader stands behind it. -/
def hullV (b : List Int) (p n : Int) : Int × Int × Int × Int :=
  let x := 1 + pickV b p 4
  let y := 1 + pickV b (p + 1) 3
  let z := 1 + pickV b (p + 2) 3
  if oddB b (p + 3) n = true then
    let q := oddP (p + 3) n
    if pickV b q 3 = 0 then ([0, 5].getD (pickV b (q + 1) 2).toNat 0, y, z, q + 2)
    else if pickV b q 3 = 1 then (x, [0, 4].getD (pickV b (q + 1) 2).toNat 0, z, q + 2)
    else (x, y, [-1, 4].getD (pickV b (q + 1) 2).toNat 0, q + 2)
  else (x, y, z, oddP (p + 3) n)
theorem pick_box {b : List Int} {p n : Int} (h : 1 ≤ n) : 0 ≤ pickV b p n ∧ pickV b p n < n := by
  unfold pickV
  split
  · omega
  · split
    · exact ⟨Int.emod_nonneg _ (by omega), Int.emod_lt_of_pos _ (by omega)⟩
    · exact ⟨Int.emod_nonneg _ (by omega), Int.emod_lt_of_pos _ (by omega)⟩
theorem oddP_box (p n : Int) : p ≤ oddP p n ∧ oddP p n ≤ p + 1 := by unfold oddP; split <;> omega

end Go.Proofs.Ytpiaeckkjdcifaa
