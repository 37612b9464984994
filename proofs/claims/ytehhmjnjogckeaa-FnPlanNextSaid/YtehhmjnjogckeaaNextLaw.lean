/- Plain laws of next slots. No condition. -/
import Derived.Test.YtehhmjnjogckeaaPlanX
namespace Go.Proofs.Ytehhmjnjogckeaa
open Go
set_option linter.unusedVariables false
set_option linter.unusedSimpArgs false

theorem next_mem {P : Nat → Bool} {n k : Nat} : ((k : Int) ∈ selTo P n) ↔ (k < n ∧ P k = true) := by
  rw [selTo_mem]
  constructor
  · rintro ⟨j, h1, h2, h3⟩
    have : j = k := by omega
    subst this; exact ⟨h1, h3⟩
  · rintro ⟨h1, h2⟩; exact ⟨k, h1, rfl, h2⟩
theorem bx_in {bs : List BoxD} {i : Nat} (h : i < bs.length) : bx bs i = bs[i] := by
  rw [bx, List.getD_eq_getElem?_getD, List.getElem?_eq_getElem h]; rfl
theorem bx_found {bs : List BoxD} {i : Nat} (h : i < bs.length) : 0 ≤ findF bs (bx bs i).id 0 := by
  rw [findF_mem bs _ 0 (by omega), bx_in h]
  exact List.mem_map_of_mem (List.getElem_mem h)
theorem put_next {b r t : Int} {bs : List BoxD} {p : List Int} (h : planB b r t bs p = true) {i : Nat} (hi : i < bs.length) (hm : (bx bs i).id ∉ p) {k : Int} (h0 : 0 ≤ k) (h1 : k < p.length) :
    (putR b r t bs p k (bx bs i).id).2 = decide (k ∈ nextR b r t bs p) := by
  have hok := planB_ok h
  have hbb := boxB_le ((boxesB_get hok.boxes).2 i hi)
  have hf := bx_found hi
  have hs : k.toNat < p.length := by omega
  have hk : ((k.toNat : Nat) : Int) = k := by omega
  have hmem : k ∈ nextR b r t bs p ↔ nextB t p k.toNat = true := by
    rw [nextR, if_pos h, ← hk, next_mem]
    rw [hk]
    exact ⟨fun hh => hh.2, fun hh => ⟨hs, hh⟩⟩
  by_cases hz : p.getD k.toNat 0 = 0
  · have hput := put_ok hok hs hz (n := (bx bs i).id) (by omega)
    have hnx : nextB t p k.toNat = true ↔ (0 < k % t → p.getD (k.toNat - 1) 0 ≠ 0) := by
      have ht := hv_t hok.ship
      have hmod : 0 ≤ k % t := Int.emod_nonneg _ (by omega)
      rw [nextB, decide_eq_true hz, Bool.true_and, Bool.or_eq_true, decide_eq_true_eq, decide_eq_true_eq, hk]
      constructor
      · rintro (h2 | h2) h3
        · omega
        · exact h2
      · intro h2
        by_cases h3 : 0 < k % t
        · exact .inr (h2 h3)
        · left; omega
    rw [putR, if_pos h, if_pos ⟨⟨h0, by omega⟩, hz, by omega⟩]
    by_cases hp : planB b r t bs (p.set k.toNat (bx bs i).id) = true
    · rw [if_pos hp]
      symm; rw [decide_eq_true_eq, hmem, hnx]
      have := (hput.1 hp).2.2
      rw [hk] at this; exact this
    · rw [if_neg hp]
      symm; rw [decide_eq_false_iff_not, hmem, hnx]
      intro h2
      apply hp
      refine hput.2 ⟨hf, hm, ?_⟩
      rw [hk]; exact h2
  · rw [putR, if_pos h, if_neg (fun hh => hz hh.2.1)]
    symm; rw [decide_eq_false_iff_not, hmem, nextB, decide_eq_false hz, Bool.false_and]; simp
theorem selTo_succ (P : Nat → Bool) (n : Nat) : ((selTo P (n + 1)).length : Int) = (selTo P n).length + (if P n = true then 1 else 0) := by
  rw [selTo]; split
  · rw [List.length_append]; rfl
  · omega
/-- In each row that is not full there is one next slot. -/
theorem next_row {b r t : Int} {bs : List BoxD} {p : List Int} (h : PlanOK b r t bs p) {q : Nat} (hq : (q : Int) % t = 0) (hl : (q : Int) + t ≤ p.length) :
    ((selTo (nextB t p) (q + t.toNat)).length : Int) = (selTo (nextB t p) q).length + (if p.getD (q + t.toNat - 1) 0 = 0 then 1 else 0) := by
  have ht := hv_t h.ship
  have htt : t = 1 ∨ t = 2 ∨ t = 3 := by omega
  have hf := h.firm
  rcases htt with rfl | rfl | rfl
  · rw [show q + (1 : Int).toNat = q + 1 from rfl, selTo_succ]
    simp only [nextB, hq, Nat.add_sub_cancel, decide_true, Bool.true_or, Bool.and_true, decide_eq_true_eq]
  · have f1 := hf (q + 1) (by omega)
    rw [show q + (2 : Int).toNat = q + 1 + 1 from rfl, selTo_succ, selTo_succ]
    have m1 : ((q + 1 : Nat) : Int) % 2 ≠ 0 := by omega
    have m2 : 0 < ((q + 1 : Nat) : Int) % 2 := by omega
    simp only [nextB, hq, decide_eq_false m1, Nat.add_sub_cancel, decide_true, Bool.true_or, Bool.false_or, Bool.and_true, Bool.and_eq_true, decide_eq_true_eq]
    rw [Nat.add_sub_cancel] at f1
    by_cases a : p.getD q 0 = 0 <;> by_cases c : p.getD (q + 1) 0 = 0 <;> simp only [a, c, if_true, if_false, not_true_eq_false, not_false_eq_true, and_true, and_false, ne_eq] <;> first | omega | exact absurd a (f1 c m2)
  · have f1 := hf (q + 1) (by omega)
    have f2 := hf (q + 2) (by omega)
    rw [show q + (3 : Int).toNat = q + 1 + 1 + 1 from rfl, selTo_succ, selTo_succ, selTo_succ]
    have m1 : ((q + 1 : Nat) : Int) % 3 ≠ 0 := by omega
    have m2 : 0 < ((q + 1 : Nat) : Int) % 3 := by omega
    have m3 : ((q + 1 + 1 : Nat) : Int) % 3 ≠ 0 := by omega
    have m4 : 0 < ((q + 2 : Nat) : Int) % 3 := by omega
    simp only [nextB, hq, decide_eq_false m1, decide_eq_false m3, Nat.add_sub_cancel, decide_true, Bool.true_or, Bool.false_or, Bool.and_true, Bool.and_eq_true, decide_eq_true_eq]
    rw [Nat.add_sub_cancel] at f1
    rw [show q + 2 - 1 = q + 1 by omega] at f2
    simp only [show q + 1 + 1 = q + 2 from rfl, show q + 3 - 1 = q + 2 from rfl, show q + 2 - 1 = q + 1 from rfl]
    by_cases a : p.getD q 0 = 0 <;> by_cases c : p.getD (q + 1) 0 = 0 <;> by_cases d : p.getD (q + 2) 0 = 0 <;> simp only [a, c, d, if_true, if_false, not_true_eq_false, not_false_eq_true, and_true, and_false, ne_eq] <;> first | omega | exact absurd a (f1 c m2) | exact absurd c (f2 d m4)
theorem next_end {b r t : Int} {bs : List BoxD} {p : List Int} (h : PlanOK b r t bs p) {k : Int} (h0 : t - 1 ≤ k) (h1 : k % t = t - 1) (h2 : ¬ k < p.length) (h3 : k + 1 - t ≤ p.length) : (k + 1 - t).toNat = p.length := by
  have ht := hv_t h.ship
  have hl := h.len
  have e1 : (k + 1 - t) % t = 0 := by
    have h5 := Int.mul_ediv_add_emod k t
    have e : k + 1 - t = t * (k / t) := by omega
    rw [e]; exact Int.mul_emod_right _ _
  have e2 : (p.length : Int) % t = 0 := by rw [hl]; exact Int.mul_emod_left _ _
  have h5 := Int.mul_ediv_add_emod (k + 1 - t) t
  have h6 := Int.mul_ediv_add_emod (p.length : Int) t
  by_cases h7 : (k + 1 - t) / t = (p.length : Int) / t
  · rw [h7] at h5; omega
  · exfalso
    have h8 : (k + 1 - t) / t ≤ (p.length : Int) / t := Int.ediv_le_ediv (by omega) h3
    have h9 : (k + 1 - t) / t + 1 ≤ (p.length : Int) / t := by omega
    have h10 : t * ((k + 1 - t) / t + 1) ≤ t * ((p.length : Int) / t) := Int.mul_le_mul_of_nonneg_left h9 (by omega)
    rw [Int.mul_add] at h10
    omega
theorem row_bound {b r t : Int} {bs : List BoxD} {p : List Int} (h : PlanOK b r t bs p) {q : Int} (h0 : t - 1 ≤ q) (h1 : q % t = t - 1) (h2 : q < p.length) : (((q + 1 - t).toNat : Nat) : Int) % t = 0 ∧ q + 1 ≤ p.length := by
  have ht := hv_t h.ship
  refine ⟨?_, by omega⟩
  rw [Int.toNat_of_nonneg (by omega)]
  have h5 := Int.mul_ediv_add_emod q t
  have e : q + 1 - t = t * (q / t) := by omega
  rw [e]; exact Int.mul_emod_right _ _

end Go.Proofs.Ytehhmjnjogckeaa
