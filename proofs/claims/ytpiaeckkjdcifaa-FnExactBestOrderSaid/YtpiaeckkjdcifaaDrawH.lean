/- Walks over drawn ships. No condition. -/
import Derived.Test.YtpiaeckkjdcifaaRd
namespace Go.Proofs.Ytpiaeckkjdcifaa
open Go
set_option linter.unusedVariables false
set_option linter.unusedSimpArgs false

theorem hullV_0 {b : List Int} {p n : Int} (h1 : oddB b (p + 3) n = true) (h2 : pickV b (oddP (p + 3) n) 3 = 0) : hullV b p n = ([0, 5].getD (pickV b (oddP (p + 3) n + 1) 2).toNat 0, 1 + pickV b (p + 1) 3, 1 + pickV b (p + 2) 3, oddP (p + 3) n + 2) := by
  simp only [hullV]; rw [if_pos h1, if_pos h2]
theorem hullV_1 {b : List Int} {p n : Int} (h1 : oddB b (p + 3) n = true) (h2 : ¬ pickV b (oddP (p + 3) n) 3 = 0) (h3 : pickV b (oddP (p + 3) n) 3 = 1) : hullV b p n = (1 + pickV b p 4, [0, 4].getD (pickV b (oddP (p + 3) n + 1) 2).toNat 0, 1 + pickV b (p + 2) 3, oddP (p + 3) n + 2) := by
  simp only [hullV]; rw [if_pos h1, if_neg h2, if_pos h3]
theorem hullV_2 {b : List Int} {p n : Int} (h1 : oddB b (p + 3) n = true) (h2 : ¬ pickV b (oddP (p + 3) n) 3 = 0) (h3 : ¬ pickV b (oddP (p + 3) n) 3 = 1) : hullV b p n = (1 + pickV b p 4, 1 + pickV b (p + 1) 3, [-1, 4].getD (pickV b (oddP (p + 3) n + 1) 2).toNat 0, oddP (p + 3) n + 2) := by
  simp only [hullV]; rw [if_pos h1, if_neg h2, if_neg h3]
theorem hullV_n {b : List Int} {p n : Int} (h1 : oddB b (p + 3) n = false) : hullV b p n = (1 + pickV b p 4, 1 + pickV b (p + 1) 3, 1 + pickV b (p + 2) 3, oddP (p + 3) n) := by
  simp only [hullV]; rw [if_neg (by rw [h1]; simp)]

end Go.Proofs.Ytpiaeckkjdcifaa
