/- Plans behind a port, row by row. No condition. -/
import Derived.Test.YtjkghldkemoddaaPlanX
import Derived.Test.YtjkghldkemoddaaPortA
import Derived.Test.YtjkghldkemoddaaSumMono
namespace Go.Proofs.Ytjkghldkemoddaa
open Go
set_option linter.unusedVariables false
set_option linter.unusedSimpArgs false

/-- The boxes of a part of a row that stay at a port. -/
def keepP (bs : List BoxD) (port : Int) (p : List Int) (s j : Nat) : List Int := ((List.range j).map fun i => p.getD (s + i) 0).filter fun x => decide (x ≠ 0) && decide (pAt bs x ≠ port)
theorem keepP_succ (bs : List BoxD) (port : Int) (p : List Int) (s j : Nat) : keepP bs port p s (j + 1) = keepP bs port p s j ++ (if p.getD (s + j) 0 ≠ 0 ∧ pAt bs (p.getD (s + j) 0) ≠ port then [p.getD (s + j) 0] else []) := by
  rw [keepP, List.range_succ, List.map_append, List.filter_append, keepP]
  congr 1
  by_cases h : p.getD (s + j) 0 ≠ 0 ∧ pAt bs (p.getD (s + j) 0) ≠ port
  · rw [if_pos h]; simp only [List.map_cons, List.map_nil]; rw [List.filter_cons_of_pos (by rw [Bool.and_eq_true]; exact ⟨decide_eq_true h.1, decide_eq_true h.2⟩)]; rfl
  · rw [if_neg h]; simp only [List.map_cons, List.map_nil]
    rw [List.filter_cons_of_neg (by intro hh; simp only [Bool.and_eq_true, decide_eq_true_eq] at hh; exact h hh)]; rfl
theorem keepP_len (bs : List BoxD) (port : Int) (p : List Int) (s j : Nat) : (keepP bs port p s j).length ≤ j := by
  have := List.length_filter_le (fun x => decide (x ≠ 0) && decide (pAt bs x ≠ port)) ((List.range j).map fun i => p.getD (s + i) 0)
  simpa [keepP] using this
theorem getD_app {a c : List Int} {k : Nat} : (a ++ c).getD k 0 = if k < a.length then a.getD k 0 else c.getD (k - a.length) 0 := by
  by_cases h : k < a.length
  · rw [if_pos h]; simp [List.getD_eq_getElem?_getD, List.getElem?_append_left h]
  · rw [if_neg h]; simp [List.getD_eq_getElem?_getD, List.getElem?_append_right (Nat.le_of_not_lt h)]
theorem mod_row {T q r : Nat} (h : r < T) : (q * T + r) % T = r := by
  rw [Nat.add_comm, Nat.add_mul_mod_self_right, Nat.mod_eq_of_lt h]
/-- What the plan behind a port has in a slot. -/
def fullP2 (bs : List BoxD) (port : Int) (p : List Int) (T k : Nat) : Int := (keepP bs port p (k - k % T) T).getD (k % T) 0
theorem fullP2_in {bs : List BoxD} {port : Int} {p : List Int} {T q k : Nat} (h1 : q * T ≤ k) (h2 : k < q * T + T) : fullP2 bs port p T k = (keepP bs port p (q * T) T).getD (k - q * T) 0 := by
  have h3 : k % T = k - q * T := by
    have := mod_row (T := T) (q := q) (r := k - q * T) (by omega)
    rw [show q * T + (k - q * T) = k by omega] at this; exact this
  rw [fullP2, h3, show k - (k - q * T) = q * T by omega]
theorem ap_part {T : Nat} {bs : List BoxD} {port : Int} {p : List Int} (q : Nat)
    (hb : ∀ k, k < p.length → (apTo T bs port p (q * T)).1.getD k 0 = if k < q * T then fullP2 bs port p T k else 0) :
    ∀ j, j ≤ T → q * T + j ≤ p.length → (j ≠ 0 → (apTo T bs port p (q * T + j)).2 = ((q * T + (keepP bs port p (q * T) j).length : Nat) : Int)) ∧
      ∀ k, k < p.length → (apTo T bs port p (q * T + j)).1.getD k 0 = if k < q * T then fullP2 bs port p T k else (keepP bs port p (q * T) j).getD (k - q * T) 0
  | 0, _, _ => ⟨fun h => absurd rfl h, fun k hk => by
      rw [Nat.add_zero, hb k hk]
      split
      · rfl
      · simp [keepP]⟩
  | j + 1, hj, hl => by
    obtain ⟨ih1, ih2⟩ := ap_part q hb j (by omega) (by omega)
    have hlen := (apTo_le T bs port p (q * T + j)).1
    have hL := keepP_len bs port p (q * T) j
    have hto : (if ((q * T + j : Nat) : Int) % (T : Int) = 0 then ((q * T + j : Nat) : Int) else (apTo T bs port p (q * T + j)).2) = ((q * T + (keepP bs port p (q * T) j).length : Nat) : Int) := by
      have e : ((q * T + j : Nat) : Int) % (T : Int) = (j : Int) := by
        have := mod_row (T := T) (q := q) (r := j) (by omega)
        omega
      rw [e]
      by_cases h0 : j = 0
      · subst h0; simp [keepP]
      · rw [if_neg (by omega)]; exact ih1 h0
    have hst : apTo T bs port p (q * T + (j + 1)) = apStep T bs port p (q * T + j) (apTo T bs port p (q * T + j)) := rfl
    rw [hst]
    simp only [apStep, hto]
    rw [keepP_succ]
    by_cases hk : p.getD (q * T + j) 0 ≠ 0 ∧ pAt bs (p.getD (q * T + j) 0) ≠ port
    · rw [if_pos hk, if_pos hk]
      dsimp only
      refine ⟨fun _ => by rw [List.length_append, List.length_singleton]; omega, fun k hkl => ?_⟩
      rw [Int.toNat_natCast, getD_set, ih2 k hkl, getD_app]
      by_cases h1 : q * T + (keepP bs port p (q * T) j).length = k
      · rw [if_pos ⟨h1, by omega⟩, if_neg (by omega), if_neg (by omega), show k - q * T - (keepP bs port p (q * T) j).length = 0 by omega]; rfl
      · rw [if_neg (fun hh => h1 hh.1)]
        by_cases h2 : k < q * T
        · rw [if_pos h2, if_pos h2]
        · rw [if_neg h2, if_neg h2]
          by_cases h3 : k - q * T < (keepP bs port p (q * T) j).length
          · rw [if_pos h3]
          · rw [if_neg h3, getD_out (by omega), getD_out (by simp; omega)]
    · rw [if_neg hk, if_neg hk, List.append_nil]
      exact ⟨fun _ => rfl, ih2⟩
theorem ap_full {T : Nat} (hT : 1 ≤ T) {bs : List BoxD} {port : Int} {p : List Int} : ∀ q, q * T ≤ p.length → ∀ k, k < p.length → (apTo T bs port p (q * T)).1.getD k 0 = if k < q * T then fullP2 bs port p T k else 0
  | 0, _, k, hk => by
    rw [Nat.zero_mul, if_neg (by omega)]
    simp [apTo, List.getD_eq_getElem?_getD, List.getElem?_replicate, hk]
  | q + 1, hq, k, hk => by
    have e : (q + 1) * T = q * T + T := by rw [Nat.add_mul, Nat.one_mul]
    rw [e] at hq ⊢
    rw [(ap_part q (ap_full hT q (by omega)) T (Nat.le_refl _) hq).2 k hk]
    by_cases h1 : k < q * T
    · rw [if_pos h1, if_pos (by omega)]
    · rw [if_neg h1]
      by_cases h2 : k < q * T + T
      · rw [if_pos h2, fullP2_in (by omega) h2]
      · rw [if_neg h2, getD_out]
        have := keepP_len bs port p (q * T) T
        omega
theorem plan_rows {b r t : Int} {bs : List BoxD} {p : List Int} (h : PlanOK b r t bs p) : ((t.toNat : Nat) : Int) = t ∧ 1 ≤ t.toNat ∧ (b * r).toNat * t.toNat = p.length := by
  have ht := hv_t h.ship
  have hb := hv_box h.ship
  have hl := h.len
  refine ⟨by omega, by omega, ?_⟩
  have : (((b * r).toNat * t.toNat : Nat) : Int) = b * r * t := by
    rw [Int.natCast_mul, Int.toNat_of_nonneg (by omega), Int.toNat_of_nonneg (by omega)]
  omega
/-- The plan behind a port, slot by slot. -/
theorem aft_get {b r t : Int} {bs : List BoxD} {p : List Int} {port : Int} (h : PlanOK b r t bs p) {k : Nat} (hk : k < p.length) : (apTo t bs port p p.length).1.getD k 0 = fullP2 bs port p t.toNat k := by
  obtain ⟨h1, h2, h3⟩ := plan_rows h
  have := ap_full h2 (bs := bs) (port := port) (p := p) (b * r).toNat (by omega) k hk
  rw [h3, if_pos hk, h1] at this
  exact this
theorem keepP_mem {bs : List BoxD} {port : Int} {p : List Int} {s j : Nat} {x : Int} : x ∈ keepP bs port p s j ↔ ∃ i, i < j ∧ p.getD (s + i) 0 = x ∧ x ≠ 0 ∧ pAt bs x ≠ port := by
  simp only [keepP, List.mem_filter, List.mem_map, List.mem_range, Bool.and_eq_true, decide_eq_true_eq]
  constructor
  · rintro ⟨⟨i, h1, h2⟩, h3, h4⟩; exact ⟨i, h1, h2, h3, h4⟩
  · rintro ⟨i, h1, h2, h3, h4⟩; exact ⟨⟨i, h1, h2⟩, h3, h4⟩
theorem keepP_nodup {b r t : Int} {bs : List BoxD} {p : List Int} (h : PlanOK b r t bs p) (port : Int) (s : Nat) : ∀ j, s + j ≤ p.length → (keepP bs port p s j).Nodup
  | 0, _ => by simp [keepP]
  | j + 1, hj => by
    have ih := keepP_nodup h port s j (by omega)
    rw [keepP_succ]
    split
    · rename_i hk
      rw [List.nodup_append]
      refine ⟨ih, by simp, fun a ha c hc => ?_⟩
      rw [List.mem_singleton] at hc
      obtain ⟨i, hi, e, _⟩ := keepP_mem.1 ha
      rw [hc, ← e]
      exact h.uniq _ _ (by omega) (by omega) hk.1
    · simpa using ih
theorem aft_len (t : Int) (bs : List BoxD) (port : Int) (p : List Int) : (apTo t bs port p p.length).1.length = p.length := (apTo_le t bs port p p.length).1
/-- All others stay on the ship: the plan behind a port is valid. -/
theorem aft_ok {b r t : Int} {bs : List BoxD} {p : List Int} (h : PlanOK b r t bs p) (port : Int) : PlanOK b r t bs (apTo t bs port p p.length).1 := by
  obtain ⟨hT, hT1, hrows⟩ := plan_rows h
  have hl := aft_len t bs port p
  have hrow : ∀ k, k < p.length → (k - k % t.toNat) + t.toNat ≤ p.length := fun k hk => by
    have h1 := Nat.div_add_mod k t.toNat
    have h2 : k / t.toNat < (b * r).toNat := by
      rw [Nat.div_lt_iff_lt_mul (by omega)]; omega
    have h3 : (k / t.toNat + 1) * t.toNat ≤ (b * r).toNat * t.toNat := Nat.mul_le_mul_right _ h2
    rw [Nat.add_mul, Nat.one_mul, Nat.mul_comm] at h3
    omega
  have hmod : ∀ k, k % t.toNat < t.toNat := fun k => Nat.mod_lt _ (by omega)
  have hget : ∀ k, k < p.length → (apTo t bs port p p.length).1.getD k 0 ≠ 0 → ∃ i, i < t.toNat ∧ (k - k % t.toNat) + i < p.length ∧ p.getD ((k - k % t.toNat) + i) 0 = (apTo t bs port p p.length).1.getD k 0 := fun k hk h0 => by
    rw [aft_get h hk] at h0 ⊢
    have hlt : k % t.toNat < (keepP bs port p (k - k % t.toNat) t.toNat).length := by
      refine Classical.byContradiction fun hn => h0 ?_
      rw [fullP2, getD_out (by omega)]
    have hm := getD_mem hlt
    obtain ⟨i, hi, e, _⟩ := keepP_mem.1 hm
    have := hrow k hk
    exact ⟨i, hi, by omega, e⟩
  refine { ship := h.ship, boxes := h.boxes, len := by rw [hl]; exact h.len, inb := fun k => ?_, uniq := fun j k hjk hk hz => ?_, firm := fun k hk hz hm => ?_ }
  · by_cases hk : k < p.length
    · by_cases h0 : (apTo t bs port p p.length).1.getD k 0 = 0
      · exact .inl h0
      · obtain ⟨i, _, _, e⟩ := hget k hk h0
        rw [← e]; exact h.inb _
    · left; exact getD_out (by omega)
  · rw [hl] at hk
    intro e
    have hz1 := hz
    rw [← e] at hz1
    obtain ⟨i1, hi1, hi2, e1⟩ := hget j (by omega) hz1
    obtain ⟨i3, hi3, hi4, e2⟩ := hget k hk hz
    rw [← e1, ← e2] at e
    have hne2 : p.getD (k - k % t.toNat + i3) 0 ≠ 0 := by rw [e2]; exact hz
    have hpos : j - j % t.toNat + i1 = k - k % t.toNat + i3 := by
      rcases Nat.lt_trichotomy (j - j % t.toNat + i1) (k - k % t.toNat + i3) with h5 | h5 | h5
      · exact absurd e (h.uniq _ _ h5 hi4 hne2)
      · exact h5
      · exact absurd e.symm (h.uniq _ _ h5 hi2 (by rw [e]; exact hne2))
    -- one row
    have hd1 := Nat.div_add_mod j t.toNat
    have hd2 := Nat.div_add_mod k t.toNat
    have hq1 : (j - j % t.toNat + i1) / t.toNat = j / t.toNat := by
      rw [show j - j % t.toNat + i1 = i1 + t.toNat * (j / t.toNat) by omega, Nat.add_mul_div_left _ _ (by omega), Nat.div_eq_of_lt hi1]; omega
    have hq2 : (k - k % t.toNat + i3) / t.toNat = k / t.toNat := by
      rw [show k - k % t.toNat + i3 = i3 + t.toNat * (k / t.toNat) by omega, Nat.add_mul_div_left _ _ (by omega), Nat.div_eq_of_lt hi3]; omega
    rw [hpos, hq2] at hq1
    have hs : j - j % t.toNat = k - k % t.toNat := by
      rw [hq1] at hd2; omega
    have hgj := aft_get h (port := port) (k := j) (by omega)
    have hgk := aft_get h (port := port) hk
    rw [fullP2, hs] at hgj
    rw [fullP2] at hgk
    have hnd := keepP_nodup h port (k - k % t.toNat) t.toNat (hrow k hk)
    have hltk : k % t.toNat < (keepP bs port p (k - k % t.toNat) t.toNat).length := by
      refine Classical.byContradiction fun hn => hz ?_
      rw [hgk, getD_out (by omega)]
    have hltj : j % t.toNat < (keepP bs port p (k - k % t.toNat) t.toNat).length := by
      refine Classical.byContradiction fun hn => hz1 ?_
      rw [hgj, getD_out (by omega)]
    rw [e1, e2] at e
    rw [hgj, hgk, getD_in hltj, getD_in hltk] at e
    have := (List.getElem_inj hnd).1 e
    omega
  · rw [hl] at hk
    have hk0 : 0 < k % t.toNat := by
      have e : (k : Int) % t = ((k % t.toNat : Nat) : Int) := by
        rw [Int.natCast_emod, hT]
      omega
    have h5 : (k - 1) % t.toNat = k % t.toNat - 1 ∧ (k - 1) - (k - 1) % t.toNat = k - k % t.toNat := by
      have hd := Nat.div_add_mod k t.toNat
      have := hmod k
      have e : (k - 1) % t.toNat = k % t.toNat - 1 := by
        have := mod_row (T := t.toNat) (q := k / t.toNat) (r := k % t.toNat - 1) (by omega)
        rw [Nat.mul_comm] at hd
        rw [show k / t.toNat * t.toNat + (k % t.toNat - 1) = k - 1 by omega] at this; exact this
      exact ⟨e, by omega⟩
    rw [aft_get h hk, fullP2] at hz
    rw [aft_get h (by omega), fullP2, h5.2, h5.1]
    have hlt : k % t.toNat < (keepP bs port p (k - k % t.toNat) t.toNat).length := by
      refine Classical.byContradiction fun hn => hz ?_
      rw [getD_out (by omega)]
    have hm := getD_mem (p := keepP bs port p (k - k % t.toNat) t.toNat) (j := k % t.toNat - 1) (by omega)
    exact (keepP_mem.1 hm).choose_spec.2.2.1
/-- The boxes of a row, from the lowest one on. -/
def rowL (p : List Int) (s j : Nat) : List Int := ((List.range j).map fun i => p.getD (s + i) 0).filter fun x => decide (x ≠ 0)
theorem rowL_succ (p : List Int) (s j : Nat) : rowL p s (j + 1) = rowL p s j ++ (if p.getD (s + j) 0 ≠ 0 then [p.getD (s + j) 0] else []) := by
  rw [rowL, List.range_succ, List.map_append, List.filter_append, rowL]
  congr 1
  by_cases h : p.getD (s + j) 0 ≠ 0
  · rw [if_pos h]; simp only [List.map_cons, List.map_nil]; rw [List.filter_cons_of_pos (by simpa using h)]; rfl
  · rw [if_neg h]; simp only [List.map_cons, List.map_nil]; rw [List.filter_cons_of_neg (by simpa using h)]; rfl
theorem rowL_len (p : List Int) (s j : Nat) : (rowL p s j).length ≤ j := by
  have := List.length_filter_le (fun x => decide (x ≠ 0)) ((List.range j).map fun i => p.getD (s + i) 0)
  simpa [rowL] using this
theorem rowL_mem {p : List Int} {s j : Nat} {x : Int} : x ∈ rowL p s j ↔ ∃ i, i < j ∧ p.getD (s + i) 0 = x ∧ x ≠ 0 := by
  simp only [rowL, List.mem_filter, List.mem_map, List.mem_range, decide_eq_true_eq]
  constructor
  · rintro ⟨⟨i, h1, h2⟩, h3⟩; exact ⟨i, h1, h2, h3⟩
  · rintro ⟨i, h1, h2, h3⟩; exact ⟨⟨i, h1, h2⟩, h3⟩
theorem div_row {T q i : Nat} (h : i < T) : (((q * T + i : Nat) : Int)) / (T : Int) = (q : Int) := by
  have e : ((q * T + i : Nat) : Int) = (i : Int) + (T : Int) * (q : Int) := by
    rw [Int.natCast_add, Int.natCast_mul, Int.mul_comm (q : Int)]; omega
  rw [e, Int.add_mul_ediv_left _ _ (by omega), Int.ediv_eq_zero_of_lt (by omega) (by omega)]; omega
/-- Below a box of a row there are boxes. -/
theorem row_firm {b r : Int} {T : Nat} {bs : List BoxD} {p : List Int} (h : PlanOK b r T bs p) {q i j : Nat} (hi : i < T) (hj : j ≤ i) (hl : q * T + i < p.length) (h0 : p.getD (q * T + i) 0 ≠ 0) : p.getD (q * T + j) 0 ≠ 0 :=
  h.full (q * T + j) (i - j) (q * T + i) (by omega) hl h0 (by rw [div_row (by omega), div_row hi])
theorem row_get {b r : Int} {T : Nat} {bs : List BoxD} {p : List Int} (h : PlanOK b r T bs p) (q : Nat) : ∀ j, j ≤ T → q * T + j ≤ p.length →
    ((∀ i, i < j → p.getD (q * T + i) 0 ≠ 0) → (rowL p (q * T) j).length = j) ∧ ∀ i, i < j → p.getD (q * T + i) 0 = (rowL p (q * T) j).getD i 0
  | 0, _, _ => ⟨fun _ => by simp [rowL], fun i hi => by omega⟩
  | j + 1, hj, hl => by
    obtain ⟨ih1, ih2⟩ := row_get h q j (by omega) (by omega)
    rw [rowL_succ]
    by_cases h0 : p.getD (q * T + j) 0 ≠ 0
    · rw [if_pos h0]
      have hall : ∀ i, i < j → p.getD (q * T + i) 0 ≠ 0 := fun i hi => row_firm h (i := j) (j := i) (by omega) (by omega) (by omega) h0
      have hlen := ih1 hall
      refine ⟨fun _ => by rw [List.length_append, hlen, List.length_singleton], fun i hi => ?_⟩
      rw [getD_app, hlen]
      by_cases hij : i < j
      · rw [if_pos hij, ih2 i hij]
      · rw [if_neg hij, show i = j by omega, Nat.sub_self]; rfl
    · rw [if_neg h0, List.append_nil]
      refine ⟨fun hh => absurd (hh j (by omega)) h0, fun i hi => ?_⟩
      by_cases hij : i < j
      · exact ih2 i hij
      · have e : i = j := by omega
        subst e
        rw [Classical.not_not.1 h0, getD_out]
        exact rowL_len p (q * T) i
/-- What lies below in a row. -/
theorem low_row {b r : Int} {T : Nat} {bs : List BoxD} {p : List Int} (h : PlanOK b r T bs p) (f : Int → Bool) {q i m : Nat} (hi : i < T) (hm : m ≤ i + 1) :
    (List.range (q * T + m)).any (lowB T p f (q * T + i)) = (List.range m).any fun j => decide (p.getD (q * T + j) 0 ≠ 0) && f (p.getD (q * T + j) 0) := by
  rw [Bool.eq_iff_iff, List.any_eq_true, List.any_eq_true]
  constructor
  · rintro ⟨j, hj, h1⟩
    have hj' := List.mem_range.1 hj
    simp only [lowB, Bool.and_eq_true, decide_eq_true_eq] at h1
    obtain ⟨⟨h2, h3⟩, h4⟩ := h1
    rw [div_row hi] at h2
    have h5 : q * T ≤ j := by
      have h6 : (q : Int) * (T : Int) ≤ (j : Int) := by
        have := Int.mul_ediv_add_emod (j : Int) (T : Int)
        rw [h2, Int.mul_comm] at this
        have h7 : 0 ≤ (j : Int) % (T : Int) := Int.emod_nonneg _ (by omega)
        omega
      have h7 : ((q * T : Nat) : Int) ≤ (j : Int) := by rw [Int.natCast_mul]; exact h6
      omega
    refine ⟨j - q * T, List.mem_range.2 (by omega), ?_⟩
    rw [show q * T + (j - q * T) = j by omega, Bool.and_eq_true, decide_eq_true_eq]
    exact ⟨h3, h4⟩
  · rintro ⟨j, hj, h1⟩
    have hj' := List.mem_range.1 hj
    rw [Bool.and_eq_true, decide_eq_true_eq] at h1
    refine ⟨q * T + j, List.mem_range.2 (by omega), ?_⟩
    simp only [lowB, Bool.and_eq_true, decide_eq_true_eq]
    exact ⟨⟨by rw [div_row hi, div_row (by omega)], h1.1⟩, h1.2⟩
theorem any_congr {n : Nat} {P Q : Nat → Bool} (h : ∀ j, j < n → P j = Q j) : (List.range n).any P = (List.range n).any Q := by
  rw [Bool.eq_iff_iff, List.any_eq_true, List.any_eq_true]
  constructor <;> rintro ⟨j, hj, h1⟩ <;> refine ⟨j, hj, ?_⟩
  · rw [← h j (List.mem_range.1 hj)]; exact h1
  · rw [h j (List.mem_range.1 hj)]; exact h1
/-- How many of a list have a lesser one before them; how many have one with a value before them or are it. -/
def ovL (l : List Int) : Int := sumTo (fun k => if (List.range k).any (fun j => decide (l.getD j 0 < l.getD k 0)) = true then 1 else 0) l.length
def mvL (port : Int) (l : List Int) : Int := sumTo (fun k => if (List.range (k + 1)).any (fun j => decide (l.getD j 0 = port)) = true then 1 else 0) l.length
theorem map_getD {g : Int → Int} {l : List Int} {j : Nat} (h : j < l.length) : (l.map g).getD j 0 = g (l.getD j 0) := by
  simp [List.getD_eq_getElem?_getD, List.getElem?_map, List.getElem?_eq_getElem h]
theorem sumTo_split (f : Nat → Int) (a : Nat) : ∀ c, sumTo f (a + c) = sumTo f a + sumTo (fun i => f (a + i)) c
  | 0 => by simp [sumTo]
  | c + 1 => by rw [show a + (c + 1) = (a + c) + 1 from rfl, sumTo, sumTo_split f a c, sumTo]; omega
theorem sumTo_rows (f : Nat → Int) (T : Nat) : ∀ Q, sumTo f (Q * T) = sumTo (fun q => sumTo (fun i => f (q * T + i)) T) Q
  | 0 => by rw [Nat.zero_mul]; rfl
  | Q + 1 => by rw [Nat.add_mul, Nat.one_mul, sumTo_split, sumTo_rows f T Q, sumTo]
theorem sumTo_cut (f g : Nat → Int) (a c : Nat) (h1 : ∀ i, i < a → f i = g i) (h2 : ∀ i, a ≤ i → i < a + c → f i = 0) : sumTo f (a + c) = sumTo g a := by
  rw [sumTo_split, sumTo_congr h1, sumTo_none _ c (fun k hk => h2 (a + k) (by omega) (by omega))]; omega
theorem row_sum {b r : Int} {T : Nat} {bs : List BoxD} {p : List Int} (h : PlanOK b r T bs p) {q : Nat} (hq : q * T + T ≤ p.length) (f : Nat → Int) (g : List Int → Nat → Int)
    (h0 : ∀ i, i < T → p.getD (q * T + i) 0 = 0 → f (q * T + i) = 0) (h1 : ∀ i, i < (rowL p (q * T) T).length → f (q * T + i) = g ((rowL p (q * T) T).map (pAt bs)) i) :
    sumTo (fun i => f (q * T + i)) T = sumTo (g ((rowL p (q * T) T).map (pAt bs))) ((rowL p (q * T) T).map (pAt bs)).length := by
  have hlen := rowL_len p (q * T) T
  have hg := (row_get h q T (Nat.le_refl _) hq).2
  have := sumTo_cut (fun i => f (q * T + i)) (g ((rowL p (q * T) T).map (pAt bs))) (rowL p (q * T) T).length (T - (rowL p (q * T) T).length) h1 (fun i hi1 hi2 => by
    refine h0 i (by omega) ?_
    rw [hg i (by omega), getD_out hi1])
  rw [show (rowL p (q * T) T).length + (T - (rowL p (q * T) T).length) = T by omega] at this
  rw [List.length_map]; exact this
theorem row_any {b r : Int} {T : Nat} {bs : List BoxD} {p : List Int} (h : PlanOK b r T bs p) {q i m : Nat} (hq : q * T + T ≤ p.length) (hi : i < (rowL p (q * T) T).length) (hm : m ≤ i + 1) (c : Int → Int → Bool) :
    (List.range (q * T + m)).any (lowB T p (fun n => c (pAt bs n) (pAt bs (p.getD (q * T + i) 0))) (q * T + i)) = (List.range m).any fun j => c (((rowL p (q * T) T).map (pAt bs)).getD j 0) (((rowL p (q * T) T).map (pAt bs)).getD i 0) := by
  have hlen := rowL_len p (q * T) T
  have hg := (row_get h q T (Nat.le_refl _) hq).2
  rw [low_row h _ (by omega) hm]
  refine any_congr fun j hj => ?_
  have hjl : j < (rowL p (q * T) T).length := by omega
  have hne : p.getD (q * T + j) 0 ≠ 0 := by
    rw [hg j (by omega)]
    exact (rowL_mem.1 (getD_mem hjl)).choose_spec.2.2
  rw [map_getD hjl, map_getD hi, ← hg j (by omega), ← hg i (by omega), decide_eq_true hne, Bool.true_and]
theorem row_ne {b r : Int} {T : Nat} {bs : List BoxD} {p : List Int} (h : PlanOK b r T bs p) {q i : Nat} (hq : q * T + T ≤ p.length) (hi : i < (rowL p (q * T) T).length) : p.getD (q * T + i) 0 ≠ 0 := by
  have hlen := rowL_len p (q * T) T
  rw [(row_get h q T (Nat.le_refl _) hq).2 i (by omega)]
  exact (rowL_mem.1 (getD_mem hi)).choose_spec.2.2
/-- The overstowed boxes, row by row. -/
theorem over_rows {b r : Int} {T : Nat} {bs : List BoxD} {p : List Int} (h : PlanOK b r T bs p) : ∀ Q, Q * T ≤ p.length → overF T bs p (Q * T) = sumTo (fun q => ovL ((rowL p (q * T) T).map (pAt bs))) Q := by
  intro Q hQ
  rw [overF, sumTo_rows]
  refine sumTo_congr fun q hq => ?_
  have hl : q * T + T ≤ p.length := by
    have := Nat.mul_le_mul_right T hq
    rw [Nat.succ_mul] at this; omega
  refine row_sum h hl (fun k => if overB T bs p k = true then 1 else 0) (fun l k => if (List.range k).any (fun j => decide (l.getD j 0 < l.getD k 0)) = true then 1 else 0) (fun i hi h0 => ?_) (fun i hi => ?_)
  · try dsimp only
    have hf : decide (p.getD (q * T + i) 0 ≠ 0) = false := decide_eq_false (fun hn => hn h0)
    rw [overB, hf, Bool.false_and]; rfl
  · try dsimp only
    rw [overB, decide_eq_true (row_ne h hl hi), Bool.true_and, row_any h hl hi (m := i) (by omega) (fun x y => decide (x < y))]
/-- The moves at a port, row by row. -/
theorem off_rows {b r : Int} {T : Nat} {bs : List BoxD} {p : List Int} (h : PlanOK b r T bs p) (port : Int) : ∀ Q, Q * T ≤ p.length → sumTo (fun k => if offB T bs p port k = true then 1 else 0) (Q * T) = sumTo (fun q => mvL port ((rowL p (q * T) T).map (pAt bs))) Q := by
  intro Q hQ
  rw [sumTo_rows]
  refine sumTo_congr fun q hq => ?_
  have hl : q * T + T ≤ p.length := by
    have := Nat.mul_le_mul_right T hq
    rw [Nat.succ_mul] at this; omega
  refine row_sum h hl (fun k => if offB T bs p port k = true then 1 else 0) (fun l k => if (List.range (k + 1)).any (fun j => decide (l.getD j 0 = port)) = true then 1 else 0) (fun i hi h0 => ?_) (fun i hi => ?_)
  · try dsimp only
    have hf : decide (p.getD (q * T + i) 0 ≠ 0) = false := decide_eq_false (fun hn => hn h0)
    rw [offB, hf, Bool.false_and]; rfl
  · try dsimp only
    rw [offB, decide_eq_true (row_ne h hl hi), Bool.true_and, show q * T + i + 1 = q * T + (i + 1) from rfl, row_any h hl hi (m := i + 1) (by omega) (fun x _ => decide (x = port))]
theorem selTo_count (P : Nat → Bool) : ∀ n, ((selTo P n).length : Int) = sumTo (fun k => if P k = true then 1 else 0) n
  | 0 => rfl
  | n + 1 => by
    rw [selTo, sumTo, ← selTo_count P n]
    split
    · rw [List.length_append]; rfl
    · omega
theorem rowL_keep {b r : Int} {T : Nat} {bs : List BoxD} {p : List Int} (h : PlanOK b r T bs p) (port : Int) {q : Nat} (hq : q * T + T ≤ p.length) :
    rowL (apTo T bs port p p.length).1 (q * T) T = (rowL p (q * T) T).filter fun x => decide (pAt bs x ≠ port) := by
  have e1 : ∀ i, i < T → (apTo T bs port p p.length).1.getD (q * T + i) 0 = (keepP bs port p (q * T) T).getD i 0 := fun i hi => by
    rw [aft_get h (by omega), Int.toNat_natCast, fullP2_in (q := q) (by omega) (by omega), show q * T + i - q * T = i by omega]
  have e2 : ∀ j, j ≤ T → ((List.range j).map fun i => (apTo T bs port p p.length).1.getD (q * T + i) 0) = (List.range j).map fun i => (keepP bs port p (q * T) T).getD i 0 := fun j hj => by
    apply List.map_congr_left
    intro i hi
    exact e1 i (by have := List.mem_range.1 hi; omega)
  have e3 : ∀ (K : List Int) (n : Nat), K.length ≤ n → (∀ x ∈ K, x ≠ 0) → (((List.range n).map fun i => K.getD i 0).filter fun x => decide (x ≠ 0)) = K := by
    intro K n hn hK
    have e4 : (List.range n).map (fun i => K.getD i 0) = K ++ List.replicate (n - K.length) 0 := by
      apply List.ext_getElem
      · simp; omega
      · intro i h1 h2
        simp only [List.getElem_map, List.getElem_range, List.getElem_append, List.getElem_replicate]
        split
        · rename_i h3; exact getD_in h3
        · rename_i h3; exact getD_out (by omega)
    rw [e4, List.filter_append, List.filter_eq_self.2 (fun x hx => by simpa using hK x hx), List.filter_eq_nil_iff.2 (fun x hx => by
      have := List.eq_of_mem_replicate hx
      simp [this]), List.append_nil]
  have e5 : keepP bs port p (q * T) T = (rowL p (q * T) T).filter fun x => decide (pAt bs x ≠ port) := by
    rw [keepP, rowL, List.filter_filter]
    apply List.filter_congr
    intro x _
    rw [Bool.and_comm]
  rw [rowL, e2 T (Nat.le_refl _), e3 _ T (keepP_len bs port p (q * T) T) (fun x hx => (keepP_mem.1 hx).choose_spec.2.2.1), e5]

end Go.Proofs.Ytjkghldkemoddaa
