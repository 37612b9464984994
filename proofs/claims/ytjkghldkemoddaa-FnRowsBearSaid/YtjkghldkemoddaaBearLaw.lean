/- Plain laws of what rows bear. No condition. -/
import Derived.Test.YtjkghldkemoddaaLoadLaw
import Derived.Test.YtjkghldkemoddaaRowW
namespace Go.Proofs.Ytjkghldkemoddaa
open Go
set_option linter.unusedVariables false
set_option linter.unusedSimpArgs false

theorem rowW_take {t : Int} {bs : List BoxD} {p : List Int} {s : Nat} (h : 0 ≤ wAt bs (p.getD s 0)) (q : Int) : ∀ n : Nat, rowW t bs (p.set s 0) q n ≤ rowW t bs p q n
  | 0 => Int.le_refl _
  | n + 1 => by
    have ih := rowW_take (t := t) h q n
    simp only [rowW] at ih ⊢
    simp only [sumTo]
    have : (if (n : Int) / t = q then wAt bs ((p.set s 0).getD n 0) else 0) ≤ (if (n : Int) / t = q then wAt bs (p.getD n 0) else 0) := by
      split
      · rw [getD_set]
        split
        · rename_i hh
          rw [← hh.1, show wAt bs 0 = 0 from by rw [wAt, if_pos rfl]]; exact h
        · exact Int.le_refl _
      · exact Int.le_refl _
    omega
theorem bear_rows {b r t : Int} {bs : List BoxD} {p : List Int} {m : Int} : bearB b r t bs p m = true ↔ planB b r t bs p = true ∧ ∀ q, q < (b * r).toNat → rowW t bs p q p.length ≤ m := by
  rw [bearB, Bool.and_eq_true, List.all_eq_true]
  constructor
  · rintro ⟨h1, h2⟩
    refine ⟨h1, fun q hq => ?_⟩
    rw [rowsR, if_pos h1] at h2
    have := h2 _ (getD_mem (p := rowsW t bs p (b * r).toNat p.length) (j := q) (by rw [rowsW_len]; exact hq))
    rw [rowsW_get hq, decide_eq_true_eq] at this
    exact this
  · rintro ⟨h1, h2⟩
    refine ⟨h1, fun x hx => ?_⟩
    rw [rowsR, if_pos h1] at hx
    obtain ⟨q, hq, e⟩ := mem_getD hx
    rw [rowsW_len] at hq
    rw [← e, rowsW_get hq, decide_eq_true_eq]
    exact h2 q hq
/-- Lighter rows are borne, too. -/
theorem bear_more {b r t : Int} {bs : List BoxD} {p : List Int} {m : Int} (h : bearB b r t bs p m = true) : bearB b r t bs p (m + 1) = true := by
  rw [bear_rows] at h ⊢
  exact ⟨h.1, fun q hq => by have := h.2 q hq; omega⟩
theorem bear_take {b r t : Int} {bs : List BoxD} {p : List Int} {m s : Int} (h : bearB b r t bs p m = true) (h2 : 0 < (takeR b r t bs p s).2) : bearB b r t bs (takeR b r t bs p s).1 m = true := by
  obtain ⟨h1, h3, h4, h5, h6⟩ := take_law h2
  rw [h5]
  rw [bear_rows] at h ⊢
  refine ⟨h6, fun q hq => ?_⟩
  rw [List.length_set]
  have hok := planB_ok h1
  exact Int.le_trans (rowW_take (wAt_le hok.boxes (hok.inb _)).1 (q : Int) _) (h.2 q hq)

end Go.Proofs.Ytjkghldkemoddaa
