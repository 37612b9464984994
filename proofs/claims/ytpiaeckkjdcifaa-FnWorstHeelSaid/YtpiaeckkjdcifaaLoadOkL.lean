/- Orders of loading, step by step. No condition. -/
import Derived.Test.YtpiaeckkjdcifaaLoadLaw
import Derived.Test.YtpiaeckkjdcifaaOkLoad
namespace Go.Proofs.Ytpiaeckkjdcifaa
open Go
set_option linter.unusedVariables false
set_option linter.unusedSimpArgs false

/-- The plan that holds the boxes of the first k slots of an order. -/
def partP (p o : List Int) (k : Nat) : List Int := (List.range p.length).map fun (j : Nat) => if (j : Int) ∈ o.take k then p.getD j 0 else 0
theorem partP_len (p o : List Int) (k : Nat) : (partP p o k).length = p.length := by simp [partP]
theorem partP_get {p o : List Int} {k j : Nat} (h : j < p.length) : (partP p o k).getD j 0 = if (j : Int) ∈ o.take k then p.getD j 0 else 0 := by
  simp [partP, List.getD_eq_getElem?_getD, h]
theorem partP_out {p o : List Int} {k j : Nat} (h : p.length ≤ j) : (partP p o k).getD j 0 = 0 := getD_out (by rw [partP_len]; exact h)
theorem partP_sub {p o : List Int} {k j : Nat} (h : (partP p o k).getD j 0 ≠ 0) : (j < p.length ∧ (j : Int) ∈ o.take k) ∧ (partP p o k).getD j 0 = p.getD j 0 := by
  by_cases hj : j < p.length
  · rw [partP_get hj] at h ⊢
    by_cases e : (j : Int) ∈ o.take k
    · rw [if_pos e]; exact ⟨⟨hj, e⟩, rfl⟩
    · rw [if_neg e] at h; exact absurd rfl h
  · exact absurd (partP_out (by omega)) h
theorem ord_get {t : Int} {p o : List Int} {k : Nat} (h : ordB t p o k = true) : ((0 ≤ o.getD k 0 ∧ o.getD k 0 < p.length) ∧ p.getD (o.getD k 0).toNat 0 ≠ 0) ∧ o.getD k 0 ∉ o.take k ∧ (0 < o.getD k 0 % t → o.getD k 0 - 1 ∈ o.take k) := by
  simp only [ordB, Bool.and_eq_true, decide_eq_true_eq, Bool.not_eq_true', decide_eq_false_iff_not, Bool.and_eq_false_iff, Bool.not_eq_false', Int.not_lt] at h
  refine ⟨⟨⟨h.1.1.1.1, by omega⟩, h.1.1.2⟩, h.1.2, fun hm => ?_⟩
  rcases h.2 with h2 | h2
  · omega
  · exact h2
theorem take_succ_mem {o : List Int} {k : Nat} (hk : k < o.length) {x : Int} : x ∈ o.take (k + 1) ↔ x ∈ o.take k ∨ x = o.getD k 0 := by
  rw [List.take_add_one, List.getElem?_eq_getElem hk, Option.toList_some, List.mem_append, List.mem_singleton, List.getD_eq_getElem?_getD, List.getElem?_eq_getElem hk]
  rfl
theorem part_step {p o : List Int} {t : Int} {k : Nat} (hk : k < o.length) (h : ordB t p o k = true) : partP p o (k + 1) = (partP p o k).set (o.getD k 0).toNat (p.getD (o.getD k 0).toNat 0) ∧ (partP p o k).getD (o.getD k 0).toNat 0 = 0 := by
  obtain ⟨⟨h1, h2⟩, h3, h4⟩ := ord_get h
  have hg : (partP p o k).getD (o.getD k 0).toNat 0 = 0 := by
    rw [partP_get (by omega), if_neg (by rw [Int.toNat_of_nonneg h1.1]; exact h3)]
  refine ⟨?_, hg⟩
  apply List.ext_getElem
  · rw [List.length_set, partP_len, partP_len]
  · intro j hj1 hj2
    rw [partP_len] at hj1
    have e : ∀ (a : List Int) (h : j < a.length), a[j] = a.getD j 0 := fun a h => by rw [List.getD_eq_getElem?_getD, List.getElem?_eq_getElem h]; rfl
    rw [e _ (by rw [partP_len]; exact hj1), e _ hj2, getD_set, partP_get hj1]
    by_cases ej : (o.getD k 0).toNat = j
    · rw [if_pos ((take_succ_mem hk).2 (.inr (by omega))), if_pos ⟨ej, by rw [partP_len]; omega⟩, ej]
    · by_cases em : (j : Int) ∈ o.take k
      · rw [if_pos ((take_succ_mem hk).2 (.inl em)), if_neg (fun hh => ej hh.1), partP_get hj1, if_pos em]
      · have hn : ¬ (j : Int) ∈ o.take (k + 1) := fun hh => by
          rcases (take_succ_mem hk).1 hh with h5 | h5
          · exact em h5
          · omega
        rw [if_neg hn, if_neg (fun hh => ej hh.1), partP_get hj1, if_neg em]
theorem part_ok {b r t : Int} {bs : List BoxD} {p o : List Int} (h : PlanOK b r t bs p) (ho : ∀ k, k < o.length → ordB t p o k = true) : ∀ k, k ≤ o.length → PlanOK b r t bs (partP p o k) := by
  intro k hk
  refine { ship := h.ship, boxes := h.boxes, len := by rw [partP_len]; exact h.len, inb := fun j => ?_, uniq := fun i j hij hj hz => ?_, firm := fun j hj hz hm => ?_ }
  · by_cases hz : (partP p o k).getD j 0 = 0
    · exact .inl hz
    · rw [(partP_sub hz).2]; exact h.inb j
  · obtain ⟨⟨h1, h2⟩, h3⟩ := partP_sub hz
    by_cases hz2 : (partP p o k).getD i 0 = 0
    · rw [hz2]; exact fun e => hz e.symm
    · rw [h3, (partP_sub hz2).2]
      rw [h3] at hz
      exact h.uniq i j hij h1 hz
  · obtain ⟨⟨h1, h2⟩, h3⟩ := partP_sub hz
    rw [h3] at hz
    have hf := h.firm j h1 hz hm
    obtain ⟨q, hq, eq⟩ := List.mem_take_iff_getElem.1 h2
    have hqk : q < k ∧ q < o.length := by omega
    have hoq := ord_get (ho q hqk.2)
    have eq2 : o.getD q 0 = (j : Int) := by rw [List.getD_eq_getElem?_getD, List.getElem?_eq_getElem hqk.2]; exact eq
    rw [eq2] at hoq
    have hmem := hoq.2.2 hm
    have hj0 : j ≠ 0 := by
      intro e; subst e; simp at hm
    rw [partP_get (by omega), if_pos]
    · exact hf
    · have : ((j - 1 : Nat) : Int) = (j : Int) - 1 := by omega
      rw [this]
      have htk : o.take q = (o.take k).take q := by rw [List.take_take, Nat.min_eq_left (by omega)]
      rw [htk] at hmem
      exact List.mem_of_mem_take hmem
theorem part_put {b r t : Int} {bs : List BoxD} {p o : List Int} (h : PlanOK b r t bs p) (ho : ∀ k, k < o.length → ordB t p o k = true) {k : Nat} (hk : k < o.length) :
    putR b r t bs (partP p o k) (o.getD k 0) (p.getD (o.getD k 0).toNat 0) = (partP p o (k + 1), true) := by
  have hs := part_step hk (ho k hk)
  obtain ⟨⟨h1, h2⟩, h3, h4⟩ := ord_get (ho k hk)
  have hb := planB_of (part_ok h ho k (by omega))
  have hb2 := planB_of (part_ok h ho (k + 1) (by omega))
  rw [putR, if_pos hb, if_pos ⟨⟨h1.1, by rw [partP_len]; omega⟩, hs.2, h2⟩, if_pos (by rw [← hs.1]; exact hb2), hs.1]
theorem part_take {b r t : Int} {bs : List BoxD} {p o : List Int} (h : PlanOK b r t bs p) (ho : ∀ k, k < o.length → ordB t p o k = true) {k : Nat} (hk : k < o.length) :
    takeR b r t bs (partP p o (k + 1)) (o.getD k 0) = (partP p o k, p.getD (o.getD k 0).toNat 0) := by
  have hp := part_put h ho hk
  have := put_take (b := b) (r := r) (t := t) (bs := bs) (p := partP p o k) (s := o.getD k 0) (n := p.getD (o.getD k 0).toNat 0) (by rw [hp])
  rw [hp] at this
  exact this.1
theorem part_zero (p o : List Int) : partP p o 0 = List.replicate p.length 0 := by
  apply List.ext_getElem
  · simp [partP]
  · intro j h1 h2
    simp [partP]

end Go.Proofs.Ytpiaeckkjdcifaa
