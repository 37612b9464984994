/- The best plugs: no more can be plugged in than at best. No condition. -/
import Derived.Test.YtpiaeckkjdcifaaPlugM
namespace Go.Proofs.Ytpiaeckkjdcifaa
open Go
set_option linter.unusedVariables false
set_option linter.unusedSimpArgs false

/-- Plugs for uses when some are taken: each one's own, or -1. -/
def asg : List (List Int) → Nat → List Int → Prop
  | [], _, [] => True
  | us :: rest, tk, x :: xs => (x = -1 ∧ asg rest tk xs) ∨ (x ∈ us ∧ tk.testBit x.toNat = false ∧ asg rest (tk ||| 2 ^ x.toNat) xs)
  | _, _, _ => False
theorem step_mono (f : Nat → List Int × Int) (tk : Nat) : ∀ (l : List Int) (s : List Int × Int), s.2 ≤ (l.foldl (stepI f tk) s).2
  | [], s => Int.le_refl _
  | x :: l, s => by
    refine Int.le_trans ?_ (step_mono f tk l _)
    unfold stepI
    split
    · exact Int.le_refl _
    · split
      · dsimp only; omega
      · exact Int.le_refl _
theorem step_mem (f : Nat → List Int × Int) (tk : Nat) : ∀ (l : List Int) (s : List Int × Int) (x : Int), x ∈ l → tk.testBit x.toNat = false → (f (tk ||| 2 ^ x.toNat)).2 + 1 ≤ (l.foldl (stepI f tk) s).2
  | [], s, x, h, _ => by simp at h
  | y :: l, s, x, h, h1 => by
    rcases List.mem_cons.1 h with h | h
    · subst h
      refine Int.le_trans ?_ (step_mono f tk l _)
      unfold stepI
      rw [if_neg (by rw [h1]; simp)]
      split
      · exact Int.le_refl _
      · omega
    · exact step_mem f tk l _ x h h1
theorem step_some (f : Nat → List Int × Int) (tk : Nat) : ∀ (l : List Int) (s : List Int × Int), (l.foldl (stepI f tk) s) = s ∨ ∃ x ∈ l, tk.testBit x.toNat = false ∧ (l.foldl (stepI f tk) s).1 = x :: (f (tk ||| 2 ^ x.toNat)).1
  | [], s => .inl rfl
  | y :: l, s => by
    have key : stepI f tk s y = s ∨ (tk.testBit y.toNat = false ∧ (stepI f tk s y).1 = y :: (f (tk ||| 2 ^ y.toNat)).1) := by
      unfold stepI
      split
      · exact .inl rfl
      · rename_i h
        split
        · exact .inr ⟨by simpa using h, rfl⟩
        · exact .inl rfl
    rcases step_some f tk l (stepI f tk s y) with h | ⟨x, hx, h1, h2⟩
    · rw [List.foldl_cons, h]
      rcases key with h2 | ⟨h2, h3⟩
      · exact .inl h2
      · exact .inr ⟨y, by simp, h2, h3⟩
    · exact .inr ⟨x, by simp [hx], h1, h2⟩
theorem plugI_best : ∀ (u : List (List Int)) (tk : Nat) (pl : List Int), (∀ xs ∈ u, ∀ x ∈ xs, 0 ≤ x) → asg u tk pl → manyP pl ≤ (plugI u tk).2
  | [], tk, [], _, _ => by simp [manyP, plugI]
  | [], tk, _ :: _, _, h => h.elim
  | us :: rest, tk, [], _, h => h.elim
  | us :: rest, tk, x :: xs, h0, h => by
    have h0' : ∀ xs ∈ rest, ∀ x ∈ xs, 0 ≤ x := fun xs hx => h0 xs (by simp [hx])
    have e : (plugI (us :: rest) tk).2 = max (us.foldl (stepI (plugI rest) tk) ([], -1)).2 (plugI rest tk).2 := by
      simp only [plugI]; split
      · dsimp only; omega
      · omega
    rw [e]
    rcases h with ⟨h1, h2⟩ | ⟨h1, h2, h3⟩
    · have := plugI_best rest tk xs h0' h2
      simp only [manyP, h1]
      rw [if_neg (by omega)]; omega
    · have h4 := plugI_best rest _ xs h0' h3
      have h5 := step_mem (plugI rest) tk us ([], -1) x h1 h2
      have h6 := h0 us (by simp) x h1
      simp only [manyP, if_pos h6]; omega
theorem plugI_asg : ∀ (u : List (List Int)) (tk : Nat), asg u tk (plugI u tk).1
  | [], tk => by simp [plugI, asg]
  | us :: rest, tk => by
    simp only [plugI]
    split
    · exact .inl ⟨rfl, plugI_asg rest tk⟩
    · rename_i hn
      rcases step_some (plugI rest) tk us ([], -1) with h | ⟨x, hx, h1, h2⟩
      · have := plugI_le rest tk
        rw [h] at hn; dsimp only at hn; omega
      · rw [h2]; exact .inr ⟨hx, h1, plugI_asg rest _⟩
theorem bit_or2 {tk : Nat} {x y : Int} (hx : 0 ≤ x) (hy : 0 ≤ y) : (tk ||| 2 ^ x.toNat).testBit y.toNat = false ↔ tk.testBit y.toNat = false ∧ y ≠ x := by
  rw [Nat.testBit_or, Nat.testBit_two_pow, Bool.or_eq_false_iff, decide_eq_false_iff_not]
  constructor
  · rintro ⟨h1, h2⟩; exact ⟨h1, fun e => h2 (by rw [e])⟩
  · rintro ⟨h1, h2⟩; exact ⟨h1, fun e => h2 (by omega)⟩
theorem asg_iff : ∀ (u : List (List Int)) (tk : Nat) (pl : List Int), (∀ xs ∈ u, ∀ x ∈ xs, 0 ≤ x) →
    (asg u tk pl ↔ pl.length = u.length ∧ ∀ k, k < pl.length → pl.getD k 0 = -1 ∨ (pl.getD k 0 ∈ u.getD k [] ∧ tk.testBit (pl.getD k 0).toNat = false ∧ pl.getD k 0 ∉ pl.take k))
  | [], tk, [], _ => by simp [asg]
  | [], tk, _ :: _, _ => by simp [asg]
  | us :: rest, tk, [], _ => by simp [asg]
  | us :: rest, tk, x :: xs, h0 => by
    have h0' : ∀ xs ∈ rest, ∀ x ∈ xs, 0 ≤ x := fun xs hx => h0 xs (by simp [hx])
    have hr : ∀ k x, x ∈ rest.getD k [] → 0 ≤ x := by
      intro k x hx
      rw [List.getD_eq_getElem?_getD] at hx
      cases hk : rest[k]? with
      | none => rw [hk] at hx; simp at hx
      | some ys => rw [hk] at hx; exact h0' ys (List.mem_of_getElem? hk) x hx
    simp only [asg, asg_iff rest _ xs h0', List.length_cons]
    constructor
    · intro h
      have hlen : xs.length = rest.length := by rcases h with ⟨_, h, _⟩ | ⟨_, _, h, _⟩ <;> exact h
      refine ⟨by omega, fun k hk => ?_⟩
      cases k with
      | zero =>
        simp only [List.getD_cons_zero, List.take_zero, List.not_mem_nil, not_false_eq_true, and_true]
        rcases h with ⟨h, _⟩ | ⟨h1, h2, _⟩
        · exact .inl h
        · exact .inr ⟨h1, h2⟩
      | succ k =>
        simp only [List.getD_cons_succ, List.take_succ_cons, List.mem_cons, not_or]
        rcases h with ⟨h1, _, h2⟩ | ⟨h1, h2, _, h3⟩
        · rcases h2 k (by omega) with h | ⟨h3, h4, h5⟩
          · exact .inl h
          · refine .inr ⟨h3, h4, ?_, h5⟩
            have := hr k _ h3; omega
        · rcases h3 k (by omega) with h | ⟨h4, h5, h6⟩
          · exact .inl h
          · have h7 := (bit_or2 (h0 us (by simp) x h1) (hr k _ h4)).1 h5
            exact .inr ⟨h4, h7.1, h7.2, h6⟩
    · rintro ⟨hlen, h⟩
      have hz := h 0 (by omega)
      simp only [List.getD_cons_zero, List.take_zero, List.not_mem_nil, not_false_eq_true, and_true] at hz
      rcases hz with hz | ⟨hz1, hz2⟩
      · refine .inl ⟨hz, by omega, fun k hk => ?_⟩
        have := h (k + 1) (by omega)
        simp only [List.getD_cons_succ, List.take_succ_cons, List.mem_cons, not_or] at this
        rcases this with h1 | ⟨h1, h2, _, h3⟩
        · exact .inl h1
        · exact .inr ⟨h1, h2, h3⟩
      · refine .inr ⟨hz1, hz2, by omega, fun k hk => ?_⟩
        have := h (k + 1) (by omega)
        simp only [List.getD_cons_succ, List.take_succ_cons, List.mem_cons, not_or] at this
        rcases this with h1 | ⟨h1, h2, h3, h4⟩
        · exact .inl h1
        · exact .inr ⟨h1, (bit_or2 (h0 us (by simp) x hz1) (hr k _ h1)).2 ⟨h2, h3⟩, h4⟩
theorem usesB_pos {u : List (List Int)} (h : usesB u = true) : ∀ xs ∈ u, ∀ x ∈ xs, 0 ≤ x := by
  simp only [usesB, Bool.and_eq_true, List.all_eq_true, decide_eq_true_eq] at h
  intro xs hx x hm
  obtain ⟨k, hk, rfl⟩ := List.getElem_of_mem hm
  have := rowB_iff.1 (h.1 xs hx) k hk
  simp only [okAt, Bool.and_eq_true, decide_eq_true_eq] at this
  have e : xs.getD k 0 = xs[k] := by rw [List.getD_eq_getElem?_getD, List.getElem?_eq_getElem hk]; rfl
  rw [e] at this
  exact this.1.1
theorem plugsB_asg {u : List (List Int)} {p : List Int} (h : usesB u = true) : plugsB u p = true ↔ asg u 0 p := by
  rw [asg_iff u 0 p (usesB_pos h)]
  simp only [plugsB, h, Bool.true_and, Bool.and_eq_true, decide_eq_true_eq, List.all_eq_true, List.mem_range, plugOK, Bool.or_eq_true, Bool.not_eq_true', decide_eq_false_iff_not, Nat.zero_testBit, true_and]
  constructor
  · rintro ⟨h1, h2⟩; exact ⟨by omega, h2⟩
  · rintro ⟨h1, h2⟩; exact ⟨by omega, h2⟩
/-- No more can be plugged in than at best. -/
theorem plug_most {u : List (List Int)} {p : List Int} (h : plugsB u p = true) : manyP p ≤ plugManyF u := by
  have hu : usesB u = true := by
    simp only [plugsB, Bool.and_eq_true] at h; exact h.1.1
  rw [plugManyF, if_pos hu]
  exact plugI_best u 0 p (usesB_pos hu) ((plugsB_asg hu).1 h)
theorem plugs_len {u : List (List Int)} {p : List Int} (h : plugsB u p = true) : usesB u = true ∧ p.length = u.length := by
  simp only [plugsB, Bool.and_eq_true, decide_eq_true_eq] at h
  exact ⟨h.1.1, by omega⟩
/-- With any one plug pulled they are valid. -/
theorem plugs_set {u : List (List Int)} {p : List Int} (h : plugsB u p = true) (k : Nat) : plugsB u (p.set k (-1)) = true := by
  have h1 := plugs_len h
  simp only [plugsB, h1.1, Bool.true_and, Bool.and_eq_true, decide_eq_true_eq, List.all_eq_true, List.mem_range, plugOK, Bool.or_eq_true, Bool.not_eq_true', decide_eq_false_iff_not] at h ⊢
  refine ⟨by rw [List.length_set]; exact h.1, fun j hj => ?_⟩
  rw [List.length_set] at hj
  have hg : (p.set k (-1)).getD j 0 = if k = j then -1 else p.getD j 0 := by
    simp only [List.getD_eq_getElem?_getD, List.getElem?_set]
    split
    · first | rfl | (rw [if_pos (by omega)]; rfl)
    · rfl
  rw [hg]
  split
  · exact .inl rfl
  · rcases h.2 j hj with h2 | ⟨h2, h3⟩
    · exact .inl h2
    · refine .inr ⟨h2, fun hm => ?_⟩
      obtain ⟨i, hi, e⟩ := List.getElem_of_mem hm
      simp only [List.length_take, List.length_set] at hi
      rw [List.getElem_take, List.getElem_set] at e
      split at e
      · have hmem : p.getD j 0 ∈ u.getD j [] := h2
        rw [List.getD_eq_getElem?_getD (l := u)] at hmem
        cases hk : u[j]? with
        | none => rw [hk] at hmem; simp at hmem
        | some ys =>
          rw [hk] at hmem
          have := usesB_pos h1.1 ys (List.mem_of_getElem? hk) _ hmem
          omega
      · apply h3
        rw [← e]
        have : p[i] = (p.take j)[i]'(by rw [List.length_take]; omega) := by simp
        rw [this]; exact List.getElem_mem _
theorem manyP_set : ∀ (p : List Int) (k : Nat) (x : Int), k < p.length → p.getD k 0 = -1 → 0 ≤ x → manyP (p.set k x) = manyP p + 1
  | [], k, x, h, _, _ => by simp at h
  | y :: p, 0, x, h, h1, h2 => by
    simp only [List.getD_cons_zero] at h1
    simp only [List.set_cons_zero, manyP, if_pos h2, h1]
    rw [if_neg (by omega)]; omega
  | y :: p, k + 1, x, h, h1, h2 => by
    simp only [List.getD_cons_succ] at h1
    simp only [List.set_cons_succ, manyP]
    rw [manyP_set p k x (by simpa using h) h1 h2]; omega
theorem plugInF_ok {u : List (List Int)} (h : usesB u = true) : plugsB u (plugInF u) = true := by
  rw [plugsB_asg h, plugInF, if_pos h]; exact plugI_asg u 0
theorem plugInF_many {u : List (List Int)} (h : usesB u = true) : manyP (plugInF u) = plugManyF u := by
  rw [plugInF, if_pos h, plugManyF, if_pos h]; exact (plug_both h).2.1
/-- No box without a plug can use a plug that nobody has. -/
theorem plugIn_full {u : List (List Int)} (h : usesB u = true) {k : Nat} (hk : k < (plugInF u).length) (h1 : (plugInF u).getD k 0 < 0) {x : Int} (hx : x ∈ u.getD k []) : x ∈ plugInF u := by
  refine Classical.byContradiction fun hn => ?_
  have hok := plugInF_ok h
  have hokc := hok
  have hl := plugs_len hok
  have hx0 : 0 ≤ x := by
    rw [List.getD_eq_getElem?_getD] at hx
    cases hk' : u[k]? with
    | none => rw [hk'] at hx; simp at hx
    | some ys => rw [hk'] at hx; exact usesB_pos h ys (List.mem_of_getElem? hk') x hx
  simp only [plugsB, h, Bool.true_and, Bool.and_eq_true, decide_eq_true_eq, List.all_eq_true, List.mem_range, plugOK, Bool.or_eq_true, Bool.not_eq_true', decide_eq_false_iff_not] at hok
  have hneg : (plugInF u).getD k 0 = -1 := by
    rcases hok.2 k hk with h2 | ⟨h2, _⟩
    · exact h2
    · rw [List.getD_eq_getElem?_getD (l := u)] at h2
      cases hk' : u[k]? with
      | none => rw [hk'] at h2; simp at h2
      | some ys => rw [hk'] at h2; have := usesB_pos h ys (List.mem_of_getElem? hk') _ h2; omega
  have hnew : plugsB u ((plugInF u).set k x) = true := by
    simp only [plugsB, h, Bool.true_and, Bool.and_eq_true, decide_eq_true_eq, List.all_eq_true, List.mem_range, plugOK, Bool.or_eq_true, Bool.not_eq_true', decide_eq_false_iff_not]
    refine ⟨by rw [List.length_set]; exact hok.1, fun j hj => ?_⟩
    rw [List.length_set] at hj
    have hg : ((plugInF u).set k x).getD j 0 = if k = j then x else (plugInF u).getD j 0 := by
      simp only [List.getD_eq_getElem?_getD, List.getElem?_set]
      split
      · first | rfl | (rw [if_pos (by omega)]; rfl)
      · rfl
    rw [hg]
    have htake : ∀ y, y ∈ ((plugInF u).set k x).take j → (y = x ∧ k < j) ∨ y ∈ (plugInF u).take j := by
      intro y hm
      obtain ⟨i, hi, e⟩ := List.getElem_of_mem hm
      simp only [List.length_take, List.length_set] at hi
      rw [List.getElem_take, List.getElem_set] at e
      split at e
      · exact .inl ⟨e.symm, by omega⟩
      · right
        rw [← e]
        have : (plugInF u)[i] = ((plugInF u).take j)[i]'(by rw [List.length_take]; omega) := by simp
        rw [this]; exact List.getElem_mem _
    split
    · rename_i e
      subst e
      refine .inr ⟨hx, fun hm => ?_⟩
      rcases htake _ hm with ⟨_, h3⟩ | h3
      · omega
      · exact hn (List.mem_of_mem_take h3)
    · rcases hok.2 j hj with h2 | ⟨h2, h3⟩
      · exact .inl h2
      · refine .inr ⟨h2, fun hm => ?_⟩
        rcases htake _ hm with ⟨h4, _⟩ | h4
        · apply hn
          rw [← h4, List.getD_eq_getElem?_getD, List.getElem?_eq_getElem hj]
          exact List.getElem_mem _
        · exact h3 h4
  have h2 := plug_most hnew
  rw [manyP_set _ k x hk hneg hx0, ← plugInF_many h] at h2
  omega

end Go.Proofs.Ytpiaeckkjdcifaa
