/- Plain laws of plans: what can be put and taken, where boxes are, ids. No condition. -/
import Derived.Test.YtpiaeckkjdcifaaOkText
import Derived.Test.YtpiaeckkjdcifaaPut
import Derived.Test.YtpiaeckkjdcifaaNext
namespace Go.Proofs.Ytpiaeckkjdcifaa
open Go
set_option linter.unusedVariables false
set_option linter.unusedSimpArgs false

theorem getD_set {p : List Int} {i j : Nat} {x : Int} : (p.set i x).getD j 0 = if i = j ∧ j < p.length then x else p.getD j 0 := by
  simp only [List.getD_eq_getElem?_getD, List.getElem?_set]
  by_cases h : i = j
  · subst h
    by_cases h2 : i < p.length
    · simp [h2]
    · simp [h2, List.getElem?_eq_none (by omega : p.length ≤ i)]
  · simp [h]
theorem getD_out {p : List Int} {j : Nat} (h : p.length ≤ j) : p.getD j 0 = 0 := by simp [List.getD_eq_getElem?_getD, List.getElem?_eq_none h]
theorem getD_in {p : List Int} {j : Nat} (h : j < p.length) : p.getD j 0 = p[j] := by
  rw [List.getD_eq_getElem?_getD, List.getElem?_eq_getElem h]; rfl
theorem getD_mem {p : List Int} {j : Nat} (h : j < p.length) : p.getD j 0 ∈ p := by
  rw [getD_in h]; exact List.getElem_mem h
theorem mem_getD {p : List Int} {x : Int} (h : x ∈ p) : ∃ j, j < p.length ∧ p.getD j 0 = x := by
  obtain ⟨j, hj, e⟩ := List.getElem_of_mem h
  exact ⟨j, hj, by rw [getD_in hj]; exact e⟩
theorem mem_take_getD {p : List Int} {x : Int} {k : Nat} (h : x ∈ p.take k) : ∃ j, j < k ∧ j < p.length ∧ p.getD j 0 = x := by
  obtain ⟨j, hj, e⟩ := List.getElem_of_mem h
  rw [List.length_take] at hj
  rw [List.getElem_take] at e
  exact ⟨j, by omega, by omega, by rw [getD_in (by omega)]; exact e⟩
theorem planB_of {b r t : Int} {bs : List BoxD} {p : List Int} (h : PlanOK b r t bs p) : planB b r t bs p = true := by
  simp only [planB, Bool.and_eq_true, decide_eq_true_eq, List.all_eq_true, List.mem_range]
  refine ⟨⟨⟨h.ship, h.boxes⟩, h.len⟩, fun k hk => ?_⟩
  by_cases h0 : p.getD k 0 = 0
  · simp only [slOK, decide_eq_true h0, Bool.true_or]
  · have h1 := (h.inb k).resolve_left h0
    have h2 : p.getD k 0 ∉ p.take k := fun hm => by
      obtain ⟨j, hj, hl, e⟩ := mem_take_getD hm
      exact h.uniq j k hj hk h0 e
    have h3 : ¬ (0 < (k : Int) % t ∧ p.getD (k - 1) 0 = 0) := fun hh => h.firm k hk h0 hh.1 hh.2
    simp only [slOK, decide_eq_false h0, decide_eq_true h1, decide_eq_false h2, Bool.false_or, Bool.not_false, Bool.true_and, Bool.not_eq_true', Bool.and_eq_false_iff, decide_eq_false_iff_not]
    by_cases h4 : 0 < (k : Int) % t
    · right; exact fun e => h3 ⟨h4, e⟩
    · left; exact h4
theorem emod_succ {s t : Int} (ht : 1 ≤ t) (h : s % t < t - 1) : (s + 1) % t = s % t + 1 := by
  have h1 := Int.mul_ediv_add_emod s t
  have h2 : 0 ≤ s % t := Int.emod_nonneg _ (by omega)
  have e : s + 1 = (s % t + 1) + t * (s / t) := by omega
  rw [e, Int.add_mul_emod_self_left, Int.emod_eq_of_lt (by omega) (by omega)]
theorem emod_pred {s t : Int} (ht : 1 ≤ t) (h : 0 < s % t) : (s - 1) % t = s % t - 1 := by
  have h1 := Int.mul_ediv_add_emod s t
  have h2 : s % t < t := Int.emod_lt_of_pos _ (by omega)
  have e : s - 1 = (s % t - 1) + t * (s / t) := by omega
  rw [e, Int.add_mul_emod_self_left, Int.emod_eq_of_lt (by omega) (by omega)]
theorem PlanOK.box {b r t : Int} {bs : List BoxD} {p : List Int} (h : PlanOK b r t bs p) {k : Nat} (h0 : p.getD k 0 ≠ 0) : 1 ≤ p.getD k 0 ∧ 0 ≤ findF bs (p.getD k 0) 0 := by
  have h1 := (h.inb k).resolve_left h0
  have h2 := findF_id bs (p.getD k 0) 0 (by omega) h1
  have h3 := findF_lt h1
  have h4 := boxB_le ((boxesB_get h.boxes).2 (findF bs (p.getD k 0) 0 - 0).toNat (by omega))
  rw [h2] at h4
  exact ⟨h4.1.1, h1⟩
/-- Into which slots a box can be put. -/
theorem put_ok {b r t : Int} {bs : List BoxD} {p : List Int} (h : PlanOK b r t bs p) {s : Nat} {n : Int} (hs : s < p.length) (h0 : p.getD s 0 = 0) (hn : n ≠ 0) :
    planB b r t bs (p.set s n) = true ↔ (0 ≤ findF bs n 0 ∧ n ∉ p ∧ (0 < (s : Int) % t → p.getD (s - 1) 0 ≠ 0)) := by
  have e : (p.set s n).getD s 0 = n := by rw [getD_set, if_pos ⟨rfl, hs⟩]
  have e2 : ∀ j, j ≠ s → (p.set s n).getD j 0 = p.getD j 0 := fun j hj => by rw [getD_set, if_neg (fun hh => hj hh.1.symm)]
  have hl : (p.set s n).length = p.length := List.length_set
  constructor
  · intro hb
    have h1 := planB_ok hb
    refine ⟨?_, ?_, ?_⟩
    · have := h1.inb s; rw [e] at this; exact this.resolve_left hn
    · intro hm
      obtain ⟨j, hj, ej⟩ := mem_getD hm
      have hjs : j ≠ s := fun hh => by subst hh; rw [h0] at ej; exact hn ej.symm
      rcases Nat.lt_or_gt_of_ne hjs with hlt | hgt
      · have := h1.uniq j s hlt (by omega) (by rw [e]; exact hn)
        rw [e, e2 j hjs] at this; exact this ej
      · have := h1.uniq s j hgt (by omega) (by rw [e2 j hjs, ej]; exact hn)
        rw [e, e2 j hjs] at this; exact this ej.symm
    · intro hm
      have := h1.firm s (by omega) (by rw [e]; exact hn) hm
      have hs0 : s ≠ 0 := by intro hh; subst hh; simp at hm
      rw [e2 (s - 1) (by omega)] at this; exact this
  · rintro ⟨h1, h2, h3⟩
    refine planB_of { ship := h.ship, boxes := h.boxes, len := by rw [hl]; exact h.len, inb := fun k => ?_, uniq := fun j k hjk hk hz => ?_, firm := fun k hk hz hm => ?_ }
    · by_cases hks : k = s
      · subst hks; rw [e]; exact .inr h1
      · rw [e2 k hks]; exact h.inb k
    · rw [hl] at hk
      by_cases hjs : j = s
      · subst hjs
        rw [e, e2 k (by omega)]
        intro hh; exact h2 (hh ▸ getD_mem hk)
      · rw [e2 j hjs]
        by_cases hks : k = s
        · subst hks; rw [e]
          intro hh; exact h2 (hh ▸ getD_mem (by omega))
        · rw [e2 k hks] at hz ⊢
          exact h.uniq j k hjk hk hz
    · rw [hl] at hk
      have hk0 : k ≠ 0 := by intro hh; subst hh; simp at hm
      by_cases hks : k = s
      · subst hks
        rw [e2 (k - 1) (by omega)]; exact h3 hm
      · rw [e2 k hks] at hz
        by_cases hk1 : k - 1 = s
        · rw [hk1, e]; exact hn
        · rw [e2 (k - 1) hk1]; exact h.firm k hk hz hm
/-- Which boxes can be taken. -/
theorem take_ok {b r t : Int} {bs : List BoxD} {p : List Int} (h : PlanOK b r t bs p) {s : Nat} (hs : s < p.length) (h0 : p.getD s 0 ≠ 0) :
    planB b r t bs (p.set s 0) = true ↔ ¬ ((s : Int) % t < t - 1 ∧ p.getD (s + 1) 0 ≠ 0) := by
  have ht := hv_t h.ship
  have e : (p.set s 0).getD s 0 = 0 := by rw [getD_set, if_pos ⟨rfl, hs⟩]
  have e2 : ∀ j, j ≠ s → (p.set s 0).getD j 0 = p.getD j 0 := fun j hj => by rw [getD_set, if_neg (fun hh => hj hh.1.symm)]
  have hl : (p.set s 0).length = p.length := List.length_set
  constructor
  · rintro hb ⟨h1, h2⟩
    have h3 := planB_ok hb
    have hlt : s + 1 < p.length := by
      refine Classical.byContradiction fun hn => h2 (getD_out (by omega))
    have hm : 0 < ((s + 1 : Nat) : Int) % t := by
      have := emod_succ (s := (s : Int)) (t := t) (by omega) h1
      have h4 : 0 ≤ (s : Int) % t := Int.emod_nonneg _ (by omega)
      rw [Int.natCast_add, Int.natCast_one, this]; omega
    have h4 := h3.firm (s + 1) (by omega) (by rw [e2 (s + 1) (by omega)]; exact h2) hm
    rw [Nat.add_sub_cancel, e] at h4
    exact h4 rfl
  · intro hno
    refine planB_of { ship := h.ship, boxes := h.boxes, len := by rw [hl]; exact h.len, inb := fun k => ?_, uniq := fun j k hjk hk hz => ?_, firm := fun k hk hz hm => ?_ }
    · by_cases hks : k = s
      · subst hks; rw [e]; exact .inl rfl
      · rw [e2 k hks]; exact h.inb k
    · rw [hl] at hk
      by_cases hks : k = s
      · subst hks; rw [e] at hz; exact absurd rfl hz
      · rw [e2 k hks] at hz ⊢
        by_cases hjs : j = s
        · subst hjs; rw [e]; exact hz.symm
        · rw [e2 j hjs]; exact h.uniq j k hjk hk hz
    · rw [hl] at hk
      have hk0 : k ≠ 0 := by intro hh; subst hh; simp at hm
      by_cases hks : k = s
      · subst hks; rw [e] at hz; exact absurd rfl hz
      · rw [e2 k hks] at hz
        by_cases hk1 : k - 1 = s
        · exfalso; apply hno
          have h5 := emod_pred (s := (k : Int)) (t := t) (by omega) hm
          have h6 : (k : Int) % t < t := Int.emod_lt_of_pos _ (by omega)
          have e3 : ((s : Nat) : Int) = (k : Int) - 1 := by omega
          refine ⟨by rw [e3, h5]; omega, ?_⟩
          rw [show s + 1 = k by omega]; exact hz
        · rw [e2 (k - 1) hk1]; exact h.firm k hk hz hm
/-- The plan without the box in a slot, and its id. -/
def takeR (b r t : Int) (bs : List BoxD) (p : List Int) (s : Int) : List Int × Int :=
  if planB b r t bs p = true then
    if (0 ≤ s ∧ s ≤ (p.length : Int) - 1) ∧ p.getD s.toNat 0 ≠ 0 ∧ ¬ (s % t < t - 1 ∧ p.getD (s + 1).toNat 0 ≠ 0) then (p.set s.toNat 0, p.getD s.toNat 0)
    else (p, -1)
  else ([], -1)
theorem takeR_le (b r t : Int) (bs : List BoxD) (p : List Int) (s : Int) : (takeR b r t bs p s).1.length ≤ p.length := by
  unfold takeR; split
  · split <;> simp
  · simp
/-- The slot of a box. -/
def findP (b r t : Int) (bs : List BoxD) (p : List Int) (n : Int) : Int := if planB b r t bs p = true ∧ 1 ≤ n then idxF p n 0 else -1
theorem idxF_le : ∀ (a : List Int) (n k : Int), idxF a n k = -1 ∨ (k ≤ idxF a n k ∧ idxF a n k < k + a.length)
  | [], n, k => .inl rfl
  | x :: xs, n, k => by
    simp only [idxF, List.length_cons]
    split
    · right; omega
    · rcases idxF_le xs n (k + 1) with h | h
      · exact .inl h
      · right; omega
theorem idxF_get : ∀ (a : List Int) (n k : Int), 0 ≤ k → 0 ≤ idxF a n k → a.getD (idxF a n k - k).toNat 0 = n
  | [], n, k, _, h => by simp [idxF] at h
  | x :: xs, n, k, h0, h => by
    simp only [idxF] at h ⊢
    by_cases hx : n = x
    · simp [hx]
    · simp only [hx, if_false] at h ⊢
      have h1 := idxF_le xs n (k + 1)
      have := idxF_get xs n (k + 1) (by omega) h
      rw [show (idxF xs n (k + 1) - k).toNat = (idxF xs n (k + 1) - (k + 1)).toNat + 1 by omega]
      simpa using this
theorem idxF_at : ∀ (a : List Int) (n k : Int) (s : Nat), s < a.length → a.getD s 0 = n → (∀ j, j < s → a.getD j 0 ≠ n) → idxF a n k = k + s
  | [], n, k, s, h, _, _ => by simp at h
  | x :: xs, n, k, 0, _, h, _ => by simp only [List.getD_cons_zero] at h; simp [idxF, h]
  | x :: xs, n, k, s + 1, h, h1, h2 => by
    have hx : n ≠ x := by have := h2 0 (by omega); simp only [List.getD_cons_zero] at this; exact fun e => this e.symm
    simp only [List.getD_cons_succ] at h1
    rw [idxF, if_neg hx, idxF_at xs n (k + 1) s (by simpa using h) h1 (fun j hj => by have := h2 (j + 1) (by omega); simpa using this)]
    omega
theorem findP_get {b r t : Int} {bs : List BoxD} {p : List Int} {n : Int} (h : 0 ≤ findP b r t bs p n) : planB b r t bs p = true ∧ 1 ≤ n ∧ findP b r t bs p n < p.length ∧ p.getD (findP b r t bs p n).toNat 0 = n := by
  unfold findP at h ⊢
  split at h
  · rename_i hh
    rw [if_pos hh]
    have h1 := idxF_le p n 0
    have h2 := idxF_get p n 0 (by omega) h
    refine ⟨hh.1, hh.2, by omega, ?_⟩
    rw [Int.sub_zero] at h2; exact h2
  · omega
theorem findP_neg {b r t : Int} {bs : List BoxD} {p : List Int} {n : Int} (h : findP b r t bs p n < 0) : findP b r t bs p n = -1 ∧ (planB b r t bs p = true → 1 ≤ n → n ∉ p) := by
  unfold findP at h ⊢
  split at h
  · rename_i hh
    rw [if_pos hh]
    have h1 := idxF_le p n 0
    refine ⟨by omega, fun _ _ hm => ?_⟩
    have := (idxF_mem p n 0 (by omega)).2 hm
    omega
  · rename_i hh
    rw [if_neg hh]
    exact ⟨rfl, fun h1 h2 => absurd ⟨h1, h2⟩ hh⟩
theorem PlanOK.at {b r t : Int} {bs : List BoxD} {p : List Int} (h : PlanOK b r t bs p) {s : Nat} (hs : s < p.length) (h0 : p.getD s 0 ≠ 0) : findP b r t bs p (p.getD s 0) = s := by
  rw [findP, if_pos ⟨planB_of h, (h.box h0).1⟩, idxF_at p _ 0 s hs rfl (fun j hj => h.uniq j s hj hs h0)]
  omega
/-- The ids of a plan. -/
theorem idsTo_mem {p : List Int} {x : Int} : ∀ {n : Nat}, x ∈ idsTo p n ↔ ∃ k : Nat, k < n ∧ p.getD k 0 = x ∧ x ≠ 0
  | 0 => by simp [idsTo]
  | n + 1 => by
    rw [idsTo]
    split
    · rename_i h
      rw [List.mem_append, idsTo_mem, List.mem_singleton]
      constructor
      · rintro (⟨k, h1, h2⟩ | h1)
        · exact ⟨k, by omega, h2⟩
        · exact ⟨n, by omega, h1.symm, h1 ▸ h⟩
      · rintro ⟨k, h1, h2, h3⟩
        by_cases e : k = n
        · subst e; right; exact h2.symm
        · left; exact ⟨k, by omega, h2, h3⟩
    · rename_i h
      rw [idsTo_mem]
      constructor
      · rintro ⟨k, h1, h2⟩; exact ⟨k, by omega, h2⟩
      · rintro ⟨k, h1, h2, h3⟩
        refine ⟨k, ?_, h2, h3⟩
        have : k ≠ n := fun e => by
          subst e
          exact h3 (by rw [← h2]; exact Classical.not_not.1 h)
        omega
theorem ids_uniq {b r t : Int} {bs : List BoxD} {p : List Int} (h : PlanOK b r t bs p) : ∀ n : Nat, n ≤ p.length → (idsTo p n).Nodup
  | 0, _ => by simp [idsTo]
  | n + 1, hn => by
    have ih := ids_uniq h n (by omega)
    rw [idsTo]
    split
    · rename_i h0
      rw [List.nodup_append]
      refine ⟨ih, by simp, fun a ha c hc => ?_⟩
      rw [List.mem_singleton] at hc
      obtain ⟨k, hk, e, _⟩ := idsTo_mem.1 ha
      rw [hc, ← e]
      exact h.uniq k n hk (by omega) h0
    · exact ih
theorem nodup_take {l : List Int} (h : l.Nodup) {k : Nat} (hk : k < l.length) : l.getD k 0 ∉ l.take k := fun hm => by
  obtain ⟨j, hj, hl, e⟩ := mem_take_getD hm
  rw [getD_in hl, getD_in hk] at e
  have := (List.getElem_inj h).1 e
  omega
/-- Ascending. -/
def ascB (a : List Int) : Bool := (List.range (a.length - 1)).all fun k => decide (a.getD k 0 < a.getD (k + 1) 0)
theorem asc_of {a : List Int} (h : a.Pairwise (· < ·)) : ascB a = true := by
  rw [ascB, List.all_eq_true]
  intro k hk
  have hk' := List.mem_range.1 hk
  rw [decide_eq_true_eq, getD_in (by omega), getD_in (by omega)]
  exact List.pairwise_iff_getElem.1 h k (k + 1) (by omega) (by omega) (by omega)
theorem selTo_asc (P : Nat → Bool) : ∀ n, (selTo P n).Pairwise (· < ·)
  | 0 => by simp [selTo]
  | n + 1 => by
    rw [selTo]
    split
    · rw [List.pairwise_append]
      refine ⟨selTo_asc P n, by simp, fun a ha c hc => ?_⟩
      rw [List.mem_singleton] at hc
      obtain ⟨k, hk, e, _⟩ := selTo_mem.1 ha
      omega
    · exact selTo_asc P n
theorem selTo_nil {P : Nat → Bool} : ∀ {n : Nat}, (∀ k, k < n → P k = false) → selTo P n = []
  | 0, _ => rfl
  | n + 1, h => by rw [selTo, if_neg (by rw [h n (by omega)]; simp), selTo_nil (fun k hk => h k (by omega))]

end Go.Proofs.Ytpiaeckkjdcifaa
