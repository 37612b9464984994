/- Sums that are greater term by term. No condition. -/
import Derived.Test.YtjkghldkemoddaaLigRow
namespace Go.Proofs.Ytjkghldkemoddaa
open Go
set_option linter.unusedVariables false
set_option linter.unusedSimpArgs false

theorem sumTo_mono {f g : Nat → Int} : ∀ {n : Nat}, (∀ k, k < n → f k ≤ g k) → sumTo f n ≤ sumTo g n
  | 0, _ => Int.le_refl _
  | n + 1, h => by
    have := sumTo_mono (n := n) (fun k hk => h k (by omega))
    have := h n (by omega)
    simp only [sumTo]; omega
theorem sumTo_swap (F : Nat → Nat → Int) (n : Nat) : ∀ m, sumTo (fun i => sumTo (F i) n) m = sumTo (fun j => sumTo (fun i => F i j) m) n
  | 0 => by rw [sumTo_none (fun j => sumTo (fun i => F i j) 0) n (fun k _ => rfl)]; rfl
  | m + 1 => by
    rw [sumTo, sumTo_swap F n m, ← sumTo_add]; rfl

end Go.Proofs.Ytjkghldkemoddaa
