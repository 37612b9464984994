/- Walks over slices of integers and rows of them. No condition. -/
import Derived.Test.YtpiaeckkjdcifaaWalk
namespace Go.Proofs.Ytpiaeckkjdcifaa
open Go
set_option linter.unusedVariables false
set_option linter.unusedSimpArgs false

theorem eq_fin1 {α : Type} [DecidableEq α] {a b : List α} (h : ¬ (a.length : Int) = b.length) : false = decide (a = b) := by
  symm; rw [decide_eq_false_iff_not]; intro e; subst e; exact h rfl
theorem eq_fin2 {α : Type} [DecidableEq α] {a b : List α} {i : Int} {d : α} (h : ¬ a.getD i.toNat d = b.getD i.toNat d) : false = decide (a = b) := by
  symm; rw [decide_eq_false_iff_not]; intro e; subst e; exact h rfl
theorem eq_fin3 {α : Type} [DecidableEq α] {a b : List α} {i : Int} (hl : (a.length : Int) = b.length) (h1 : i ≤ a.length) (h : a.take i.toNat = b.take i.toNat) (h2 : ¬ i < a.length) : true = decide (a = b) := by
  symm; rw [decide_eq_true_eq]
  have e : i.toNat = a.length := by omega
  rw [e, List.take_length] at h
  rw [h, List.take_of_length_le (by omega)]
theorem take_step {α : Type} {a b : List α} {d : α} (i : Int) (h0 : 0 ≤ i) (h1 : i ≤ a.length) (h : a.take i.toNat = b.take i.toNat) (h2 : i < a.length) (hl : (a.length : Int) = b.length) (h3 : a.getD i.toNat d = b.getD i.toNat d) : a.take (i + 1).toNat = b.take (i + 1).toNat := by
  have e : (i + 1).toNat = i.toNat + 1 := by omega
  rw [e, List.take_add_one, List.take_add_one, h]
  have ha : i.toNat < a.length := by omega
  have hb : i.toNat < b.length := by omega
  simp only [List.getD_eq_getElem?_getD, List.getElem?_eq_getElem ha, List.getElem?_eq_getElem hb, Option.getD_some] at h3 ⊢
  rw [h3]
theorem row_le {a : List (List Int)} {B : Nat} (h : ∀ xs ∈ a, xs.length ≤ B) (i : Nat) : (a.getD i []).length ≤ B := by
  rw [List.getD_eq_getElem?_getD]
  cases hx : a[i]? with
  | none => simp
  | some xs => exact h xs (List.mem_of_getElem? hx)
/-- A copy, as it is made. -/
theorem copy_step {α : Type} {a l : List α} {d : α} {i : Int} (h0 : 0 ≤ i) (h : l = a.take i.toNat ++ List.replicate (a.length - i.toNat) d) (h2 : i < a.length) : l.set i.toNat (a.getD i.toNat d) = a.take (i + 1).toNat ++ List.replicate (a.length - (i + 1).toNat) d := by
  have e : (i + 1).toNat = i.toNat + 1 := by omega
  have ha : i.toNat < a.length := by omega
  subst h
  rw [e, List.take_add_one, List.getElem?_eq_getElem ha, List.getD_eq_getElem?_getD, List.getElem?_eq_getElem ha, List.set_append_right _ _ (by simp; omega)]
  have e2 : a.length - i.toNat = (a.length - (i.toNat + 1)) + 1 := by omega
  have e3 : i.toNat - (a.take i.toNat).length = 0 := by simp; omega
  rw [e2, List.replicate_succ, e3]
  simp only [List.set_cons_zero, Option.toList_some, Option.getD_some, List.append_assoc, List.singleton_append, List.cons_append, List.nil_append]
theorem copy_end {α : Type} {a l : List α} {d : α} {i : Int} (h1 : i ≤ a.length) (h : l = a.take i.toNat ++ List.replicate (a.length - i.toNat) d) (h2 : ¬ i < a.length) : l = a := by
  have e : i.toNat = a.length := by omega
  rw [h, e]; simp
theorem copy_len {α : Type} {a l : List α} {d : α} {i : Int} (h0 : 0 ≤ i) (h1 : i ≤ a.length) (h : l = a.take i.toNat ++ List.replicate (a.length - i.toNat) d) : l.length = a.length := by
  rw [h]; simp; omega
/-- The room that is left, row by row. -/
def szR : List (List Int) → Int → Int
  | [], l => l
  | xs :: r, l => if l - xs.length < 0 then -1 else szR r (l - xs.length)
def szSS (a : List (List Int)) (left : Int) : Int := if left - a.length < 0 then -1 else szR a (left - a.length)
theorem szR_step {a : List (List Int)} {i l : Int} (h0 : 0 ≤ i) (h : i < a.length) : szR (a.drop i.toNat) l = if l - (a.getD i.toNat []).length < 0 then -1 else szR (a.drop (i + 1).toNat) (l - (a.getD i.toNat []).length) := by
  have ha : i.toNat < a.length := by omega
  have e : (i + 1).toNat = i.toNat + 1 := by omega
  rw [List.drop_eq_getElem_cons ha, szR, e, List.getD_eq_getElem?_getD, List.getElem?_eq_getElem ha]
  rfl
theorem szR_end {a : List (List Int)} {i l : Int} (h : ¬ i < a.length) : szR (a.drop i.toNat) l = l := by
  rw [List.drop_eq_nil_of_le (by omega)]; rfl
theorem szR_le : ∀ (a : List (List Int)) (l : Int), 0 ≤ szR a l → (∀ xs ∈ a, (xs.length : Int) ≤ l) ∧ szR a l ≤ l
  | [], l, h => ⟨by simp, Int.le_refl _⟩
  | xs :: a, l, h => by
    simp only [szR] at h ⊢
    split at h
    · omega
    · rename_i hn
      rw [if_neg hn]
      obtain ⟨h1, h2⟩ := szR_le a _ h
      refine ⟨?_, by omega⟩
      intro ys hy
      rcases List.mem_cons.1 hy with rfl | hy
      · omega
      · have := h1 ys hy; omega
theorem szSS_le {a : List (List Int)} {l : Int} (h : ¬ szSS a l < 0) : (a.length : Int) ≤ l ∧ ∀ xs ∈ a, (xs.length : Int) ≤ l := by
  simp only [szSS] at h
  split at h
  · omega
  · obtain ⟨h1, h2⟩ := szR_le a (l - a.length) (by omega)
    exact ⟨by omega, fun xs hx => by have := h1 xs hx; omega⟩
theorem sz_next {a : List (List Int)} {i z l : Int} (h0 : 0 ≤ i) (hz : z ≤ 9223372036854775807) (hI : szR (a.drop i.toNat) z = szSS a l) (h1 : i < a.length) (h2 : ¬ (if z - (a.getD i.toNat []).length < 0 then -1 else z - (a.getD i.toNat []).length) < 0) :
    0 ≤ i + 1 ∧ i + 1 ≤ a.length ∧ 0 ≤ (if z - (a.getD i.toNat []).length < 0 then -1 else z - (a.getD i.toNat []).length) ∧ (if z - (a.getD i.toNat []).length < 0 then -1 else z - (a.getD i.toNat []).length) ≤ 9223372036854775807 ∧ szR (a.drop (i + 1).toNat) (if z - (a.getD i.toNat []).length < 0 then -1 else z - (a.getD i.toNat []).length) = szSS a l := by
  rw [szR_step h0 h1] at hI
  split at h2
  · omega
  · rename_i hn
    rw [if_neg hn] at hI ⊢
    exact ⟨by omega, by omega, by omega, by omega, hI⟩
theorem sz_f1 {a : List (List Int)} {l : Int} (h : l - a.length < 0) : -1 = szSS a l := by rw [szSS, if_pos h]
theorem sz_f2 {a : List (List Int)} {i z l : Int} (h0 : 0 ≤ i) (hI : szR (a.drop i.toNat) z = szSS a l) (h1 : i < a.length) (h2 : (if z - (a.getD i.toNat []).length < 0 then -1 else z - (a.getD i.toNat []).length) < 0) : -1 = szSS a l := by
  rw [szR_step h0 h1] at hI
  split at h2
  · rename_i hn; rw [if_pos hn] at hI; exact hI
  · omega
theorem sz_f3 {a : List (List Int)} {i z l : Int} (hI : szR (a.drop i.toNat) z = szSS a l) (h1 : ¬ i < a.length) : z = szSS a l := by rw [szR_end h1] at hI; exact hI

end Go.Proofs.Ytpiaeckkjdcifaa
