/- Plain laws of the weights of rows and of lighter boxes. No condition. -/
import Derived.Test.YtjkghldkemoddaaPlanX
namespace Go.Proofs.Ytjkghldkemoddaa
open Go
set_option linter.unusedVariables false
set_option linter.unusedSimpArgs false

theorem sumTo_add (f g : Nat → Int) : ∀ n, sumTo (fun k => f k + g k) n = sumTo f n + sumTo g n
  | 0 => rfl
  | n + 1 => by simp only [sumTo, sumTo_add f g n]; omega
theorem sumTo_none (f : Nat → Int) : ∀ n, (∀ k, k < n → f k = 0) → sumTo f n = 0
  | 0, _ => rfl
  | n + 1, h => by rw [sumTo, sumTo_none f n (fun k hk => h k (by omega)), h n (by omega)]; rfl
theorem sumTo_one (c : Int) (j : Nat) : ∀ n, j < n → sumTo (fun q => if (j : Int) = (q : Int) then c else 0) n = c
  | 0, h => by omega
  | n + 1, h => by
    rw [sumTo]
    by_cases e : j = n
    · subst e
      rw [sumTo_none _ _ (fun k hk => by rw [if_neg (by omega)]), if_pos rfl]; omega
    · rw [sumTo_one c j n (by omega), if_neg (by omega)]; omega
/-- Rows are together the load. -/
theorem rows_sum {t : Int} {bs : List BoxD} {p : List Int} {m : Nat} (ht : 1 ≤ t) : ∀ n : Nat, (∀ k : Nat, k < n → (k : Int) / t < m) → sumTo (fun q => rowW t bs p q n) m = sumTo (fun k => wAt bs (p.getD k 0)) n
  | 0, _ => by rw [sumTo_none (fun q : Nat => rowW t bs p (q : Int) 0) m (fun k _ => rfl)]; rfl
  | n + 1, h => by
    have ih := rows_sum (bs := bs) (p := p) ht n (fun k hk => h k (by omega))
    have h1 := h n (by omega)
    have h2 : 0 ≤ (n : Int) / t := Int.ediv_nonneg (by omega) (by omega)
    have e : (fun q : Nat => rowW t bs p q (n + 1)) = fun q : Nat => rowW t bs p q n + (if ((((n : Int) / t).toNat : Nat) : Int) = (q : Int) then wAt bs (p.getD n 0) else 0) := by
      funext q
      rw [rowW, sumTo, rowW, Int.toNat_of_nonneg h2]
    rw [e, sumTo_add, ih, sumTo_one _ _ _ (by omega), sumTo]

end Go.Proofs.Ytjkghldkemoddaa
