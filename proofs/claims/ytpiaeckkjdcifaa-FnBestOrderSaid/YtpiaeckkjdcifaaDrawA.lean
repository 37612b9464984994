/- Walks over drawn pairs of slots. No condition. -/
import Derived.Test.YtpiaeckkjdcifaaDrawH
namespace Go.Proofs.Ytpiaeckkjdcifaa
open Go
set_option linter.unusedVariables false
set_option linter.unusedSimpArgs false

def drN (b : List Int) : Int := max (many (hullV b 0 9).1 (hullV b 0 9).2.1 (hullV b 0 9).2.2.1) 1
def drP (b : List Int) : Int := (hullV b 0 9).2.2.2
def drOne (b : List Int) : Int := pickV b (drP b) (drN b) - pickV b (drP b + 1) 20 / 19
def drTwo (b : List Int) : Int := pickV b (drP b + 2) (drN b) + pickV b (drP b + 3) 20 / 19 * 40
theorem code_take {b : List Int} (h : ∀ x ∈ b, 0 ≤ x ∧ x ≤ 255) : codeOK (b.take 2000) := ⟨by rw [List.length_take]; omega, fun x hx => h x (List.mem_of_mem_take hx)⟩
theorem hullV_p (b : List Int) (p n : Int) : p ≤ (hullV b p n).2.2.2 ∧ (hullV b p n).2.2.2 ≤ p + 6 := by
  have ho := oddP_box (p + 3) n
  simp only [hullV]
  repeat (first | (dsimp only; omega) | split)

end Go.Proofs.Ytpiaeckkjdcifaa
