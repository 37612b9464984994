/- Walks over plans. No condition. -/
import Derived.Test.YtpiaeckkjdcifaaBox
import Derived.Test.YtpiaeckkjdcifaaSlot
import Derived.Test.YtpiaeckkjdcifaaLists
namespace Go.Proofs.Ytpiaeckkjdcifaa
open Go
set_option linter.unusedVariables false
set_option linter.unusedSimpArgs false

/-- A slot of a plan is as it has to be. -/
def slOK (t : Int) (bs : List BoxD) (p : List Int) (k : Nat) : Bool := decide (p.getD k 0 = 0) || (decide (0 ≤ findF bs (p.getD k 0) 0) && !decide (p.getD k 0 ∈ p.take k) && !(decide (0 < (k : Int) % t) && decide (p.getD (k - 1) 0 = 0)))
def planB (b r t : Int) (bs : List BoxD) (p : List Int) : Bool := hv b r t && boxesB bs && decide ((p.length : Int) = b * r * t) && (List.range p.length).all (slOK t bs p)
theorem planB_no1 {b r t : Int} {bs : List BoxD} {p : List Int} (h : (hv b r t = false ∨ boxesB bs = false) ∨ ¬ (p.length : Int) = b * r * t) : false = planB b r t bs p := by
  rcases h with (h | h) | h
  · simp [planB, h]
  · simp [planB, h]
  · simp only [planB, decide_eq_false h, Bool.and_false, Bool.false_and]
theorem planB_yes {b r t : Int} {bs : List BoxD} {p : List Int} {i : Int} (h : (hv b r t = true ∧ boxesB bs = true) ∧ (p.length : Int) = b * r * t) (hI : ∀ k : Nat, (k : Int) < i → slOK t bs p k = true) (h1 : ¬ i < p.length) : true = planB b r t bs p := by
  have : (List.range p.length).all (slOK t bs p) = true := by
    rw [List.all_eq_true]
    intro k hk
    exact hI k (by have := List.mem_range.1 hk; omega)
  simp only [planB, h.1.1, h.1.2, decide_eq_true h.2, this, Bool.and_self]
theorem planB_bad {b r t : Int} {bs : List BoxD} {p : List Int} {i : Int} (h0 : 0 ≤ i) (h1 : i < p.length) (h : slOK t bs p i.toNat = false) : false = planB b r t bs p := by
  symm
  cases hu : planB b r t bs p with
  | false => rfl
  | true =>
    exfalso
    simp only [planB, Bool.and_eq_true, List.all_eq_true] at hu
    have := hu.2 i.toNat (List.mem_range.2 (by omega))
    rw [h] at this; cases this
theorem slOK_not {t : Int} {bs : List BoxD} {p : List Int} {i : Int} (hi : 0 ≤ i) (h0 : ¬ p.getD i.toNat 0 = 0) (h : (findF bs (p.getD i.toNat 0) 0 < 0 ∨ p.getD i.toNat 0 ∈ p.take i.toNat) ∨ (0 < i % t ∧ p.getD (i - 1).toNat 0 = 0)) : slOK t bs p i.toNat = false := by
  have e : i.toNat - 1 = (i - 1).toNat := by omega
  have e2 : ((i.toNat : Nat) : Int) = i := by omega
  rcases h with (h | h) | ⟨h, h'⟩
  · have h := Int.not_le.2 h
    simp only [slOK, decide_eq_false h0, decide_eq_false h, Bool.false_or, Bool.false_and]
  · simp only [slOK, decide_eq_false h0, decide_eq_true h, Bool.false_or, Bool.not_true, Bool.and_false, Bool.false_and]
  · simp only [slOK, e, e2, decide_eq_false h0, decide_eq_true h, decide_eq_true h', Bool.false_or, Bool.and_self, Bool.not_true, Bool.and_false]
theorem slOK_of {t : Int} {bs : List BoxD} {p : List Int} {i : Int} (hi : 0 ≤ i) (h : p.getD i.toNat 0 = 0 ∨ ((0 ≤ findF bs (p.getD i.toNat 0) 0 ∧ p.getD i.toNat 0 ∉ p.take i.toNat) ∧ (¬ 0 < i % t ∨ ¬ p.getD (i - 1).toNat 0 = 0))) : slOK t bs p i.toNat = true := by
  have e : i.toNat - 1 = (i - 1).toNat := by omega
  have e2 : ((i.toNat : Nat) : Int) = i := by omega
  rcases h with h | ⟨⟨h1, h2⟩, h3⟩
  · simp only [slOK, decide_eq_true h, Bool.true_or]
  · simp only [slOK, e, e2, decide_eq_true h1, decide_eq_false h2, Bool.not_false, Bool.true_and, Bool.or_eq_true, Bool.not_eq_true', Bool.and_eq_false_iff, decide_eq_false_iff_not, decide_eq_true_eq]
    right; exact h3
/-- What holds of a plan that is as it has to be. -/
structure PlanOK (b r t : Int) (bs : List BoxD) (p : List Int) : Prop where
  ship : hv b r t = true
  boxes : boxesB bs = true
  len : (p.length : Int) = b * r * t
  inb : ∀ k, inBx bs (p.getD k 0)
  uniq : ∀ j k, j < k → k < p.length → p.getD k 0 ≠ 0 → p.getD j 0 ≠ p.getD k 0
  firm : ∀ k, k < p.length → p.getD k 0 ≠ 0 → 0 < (k : Int) % t → p.getD (k - 1) 0 ≠ 0
theorem planB_ok {b r t : Int} {bs : List BoxD} {p : List Int} (h : planB b r t bs p = true) : PlanOK b r t bs p := by
  simp only [planB, Bool.and_eq_true, decide_eq_true_eq, List.all_eq_true, List.mem_range] at h
  obtain ⟨⟨⟨h1, h2⟩, h3⟩, h4⟩ := h
  have h5 : ∀ k, k < p.length → p.getD k 0 ≠ 0 → 0 ≤ findF bs (p.getD k 0) 0 ∧ p.getD k 0 ∉ p.take k ∧ (¬ 0 < (k : Int) % t ∨ p.getD (k - 1) 0 ≠ 0) := by
    intro k hk h0
    have := h4 k hk
    simp only [slOK, decide_eq_false h0, Bool.false_or, Bool.and_eq_true, decide_eq_true_eq, Bool.not_eq_true', decide_eq_false_iff_not, Bool.and_eq_false_iff] at this
    exact ⟨this.1.1, this.1.2, this.2⟩
  refine ⟨h1, h2, h3, fun k => ?_, fun j k hj hk h0 e => ?_, fun k hk h0 h6 => ?_⟩
  · by_cases hk : k < p.length
    · by_cases h0 : p.getD k 0 = 0
      · exact .inl h0
      · exact .inr (h5 k hk h0).1
    · left; simp [List.getD_eq_getElem?_getD, List.getElem?_eq_none (by omega : p.length ≤ k)]
  · apply (h5 k hk h0).2.1
    rw [← e]
    have hj' : j < p.length := by omega
    have : p.getD j 0 = (p.take k)[j]'(by rw [List.length_take]; omega) := by simp [List.getD_eq_getElem?_getD, List.getElem?_eq_getElem hj']
    rw [this]; exact List.getElem_mem _
  · rcases (h5 k hk h0).2.2 with h7 | h7
    · exact absurd h6 h7
    · exact h7
theorem hv_t {b r t : Int} (h : hv b r t = true) : 1 ≤ b ∧ b ≤ 4 ∧ 1 ≤ r ∧ r ≤ 3 ∧ 1 ≤ t ∧ t ≤ 3 := by
  simpa only [hv, decide_eq_true_eq] using h
theorem mul_le2 {b r : Int} {m n : Int} (h1 : 1 ≤ b) (h2 : b ≤ m) (h3 : 1 ≤ r) (h4 : r ≤ n) : 1 ≤ b * r ∧ b * r ≤ m * n :=
  ⟨by have := Int.mul_le_mul h1 h3 (by omega) (by omega); omega, Int.mul_le_mul h2 h4 (by omega) (by omega)⟩
theorem PlanOK.le {b r t : Int} {bs : List BoxD} {p : List Int} (h : PlanOK b r t bs p) : p.length ≤ 36 ∧ 1 ≤ p.length := by
  obtain ⟨h1, h2, h3, h4, h5, h6⟩ := hv_t h.ship
  obtain ⟨h7, h8⟩ := mul_le2 h1 h2 h3 h4
  obtain ⟨h9, h10⟩ := mul_le2 h7 h8 h5 h6
  have := h.len
  omega
/-- Below a box there are boxes. -/
theorem PlanOK.full {b r t : Int} {bs : List BoxD} {p : List Int} (h : PlanOK b r t bs p) (j : Nat) : ∀ (d k : Nat), k = j + d → k < p.length → p.getD k 0 ≠ 0 → (j : Int) / t = (k : Int) / t → p.getD j 0 ≠ 0
  | 0, k, e, hk, h0, _ => by simpa [e] using h0
  | d + 1, k, e, hk, h0, h1 => by
    have ht := hv_t h.ship
    have hm : 0 < (k : Int) % t := by
      have h2 := Int.mul_ediv_add_emod (k : Int) t
      have h3 := Int.mul_ediv_add_emod (j : Int) t
      have h4 : 0 ≤ (j : Int) % t := Int.emod_nonneg _ (by omega)
      rw [h1] at h3
      omega
    have h5 : ((k - 1 : Nat) : Int) / t = (k : Int) / t := by
      have h2 := Int.mul_ediv_add_emod (k : Int) t
      have h3 : (k : Int) % t < t := Int.emod_lt_of_pos _ (by omega)
      have e1 : ((k - 1 : Nat) : Int) = t * ((k : Int) / t) + ((k : Int) % t - 1) := by omega
      rw [e1, Int.add_comm, Int.add_mul_ediv_left _ _ (by omega), Int.ediv_eq_zero_of_lt (by omega) (by omega)]
      omega
    exact h.full j d (k - 1) (by omega) (by omega) (h.firm k hk h0 hm) (by rw [h5]; exact h1)
/-- The sum of the first n. -/
def sumTo (f : Nat → Int) : Nat → Int
  | 0 => 0
  | n + 1 => sumTo f n + f n
theorem sumTo_step (f : Nat → Int) {i : Int} (h : 0 ≤ i) : sumTo f (i + 1).toNat = sumTo f i.toNat + f i.toNat := by
  have : (i + 1).toNat = i.toNat + 1 := by omega
  rw [this]; rfl
theorem sumTo_le (f : Nat → Int) (c : Int) (h : ∀ k, -c ≤ f k ∧ f k ≤ c) : ∀ n : Nat, -(c * n) ≤ sumTo f n ∧ sumTo f n ≤ c * n
  | 0 => by simp [sumTo]
  | n + 1 => by
    have := sumTo_le f c h n
    have := h n
    simp only [sumTo, Int.natCast_add, Int.mul_add]
    omega
theorem sumTo_congr {f g : Nat → Int} : ∀ {n : Nat}, (∀ k, k < n → f k = g k) → sumTo f n = sumTo g n
  | 0, _ => rfl
  | n + 1, h => by rw [sumTo, sumTo, sumTo_congr (fun k hk => h k (by omega)), h n (by omega)]
def loadF (b r t : Int) (bs : List BoxD) (p : List Int) : Int := if planB b r t bs p = true then sumTo (fun k => wAt bs (p.getD k 0)) p.length else -1
def armH (r t : Int) (k : Nat) : Int := 2 * ((k : Int) / t % r) - (r - 1)
def armT (b r t : Int) (k : Nat) : Int := 2 * ((k : Int) / t / r) - (b - 1)
def heelF (r t : Int) (bs : List BoxD) (p : List Int) (n : Nat) : Int := sumTo (fun k => wAt bs (p.getD k 0) * armH r t k) n
def trimF (b r t : Int) (bs : List BoxD) (p : List Int) (n : Nat) : Int := sumTo (fun k => wAt bs (p.getD k 0) * armT b r t k) n

theorem bel_iff {t i x : Int} {p : List Int} (hx : x = if 0 < i % t then i - 1 else -1) (hi : 0 ≤ i) : (0 ≤ x ∧ p.getD x.toNat 0 = 0) ↔ (0 < i % t ∧ p.getD (i - 1).toNat 0 = 0) := by
  subst hx
  by_cases h : 0 < i % t
  · have h1 : i ≠ 0 := by intro e; subst e; simp at h
    simp only [h, if_true, true_and]
    exact ⟨fun h => h.2, fun h => ⟨by omega, h⟩⟩
  · simp only [h, if_false, false_and, iff_false]; omega
theorem bel_iff2 {t i x : Int} {p : List Int} (hx : x = if 0 < i % t then i - 1 else -1) (hi : 0 ≤ i) : (¬ 0 ≤ x ∨ ¬ p.getD x.toNat 0 = 0) ↔ (¬ 0 < i % t ∨ ¬ p.getD (i - 1).toNat 0 = 0) := by
  have := bel_iff (p := p) hx hi
  rw [← Classical.not_and_iff_not_or_not, ← Classical.not_and_iff_not_or_not, this]
theorem planB_no2 {b r t : Int} {bs : List BoxD} {p : List Int} (h : (hv b r t = false ∨ boxesB bs = false) ∨ ¬ (p.length : Int) = many b r t) : false = planB b r t bs p := by
  rcases h with h | h
  · exact planB_no1 (.inl h)
  · cases hh : hv b r t with
    | false => exact planB_no1 (.inl (.inl hh))
    | true =>
      rw [many, if_pos hh] at h
      exact planB_no1 (.inr h)
theorem slOK_yes {t : Int} {bs : List BoxD} {p : List Int} {i : Int} (hi : 0 ≤ i) (h : (¬ findF bs (p.getD i.toNat 0) 0 < 0 ∧ p.getD i.toNat 0 ∉ p.take i.toNat) ∧ (¬ 0 < i % t ∨ ¬ p.getD (i - 1).toNat 0 = 0)) : slOK t bs p i.toNat = true :=
  slOK_of hi (.inr ⟨⟨Int.not_lt.1 h.1.1, h.1.2⟩, h.2⟩)

def c_impl_PlanValid : Ctr where
  modes := [.v .p, .v (.r .box), .v (.r .i64)]
  al := false
  run := fun xs os => match xs, os with
    | [.agg [.int b, .int r, .int t], .rs .box bs, .rs .i64 p], [] => some ⟨bs.length ≤ 9223372036854775807 ∧ p.length ≤ 9223372036854775807, .bool (planB b r t bs p), [], []⟩
    | _, _ => none
theorem m_impl_PlanValid : Meets Try.prog 47 c_impl_PlanValid := by
  refine meets_of (T := tyT) tyOK Try.func47 (by rfl) rfl (by decide) ?_
  intro args owns R hrun hpre
  simp only [c_impl_PlanValid] at hrun
  split at hrun
  case h_2 => cases hrun
  rename_i b r t bs p
  cases hrun
  try dsimp only at hpre
  refine ⟨_, rfl, fun E hP hnt hnp => ?_⟩
  replace hnt : E.nt = 59 := hnt
  replace hnp : E.np = 3 := hnp
  have hT : ∀ t d, tyT t = some d → TyOK E.P t d := hP ▸ tyOK
  have hG : ∀ f C, Γof [(78, c_impl_Hull_tier), (86, c_impl_HullValid), (87, c_impl_Hull_slots), (90, c_slices_Contains_int_int), (97, c_impl_BoxesValid), (98, c_impl_boxAt)] f = some C → Meets E.P f C := hΓof (by rw [hP]; exact ⟨m_impl_Hull_tier, m_impl_HullValid, m_impl_Hull_slots, m_slices_Contains_int_int, m_impl_BoxesValid, m_impl_boxAt, trivial⟩)
  try simp only [show Try.f47.ntmps = 59 from rfl]
  have hbs := hpre.1
  have hp := hpre.2
  have hbb := @hv_box b r t
  refine W_seq (fun K1 hK1 => ?_)
  refine W_region hT hG [] [1, 2, 3] ?_
  rw [hnt]
  simp only [baseS, eq_self, implies_true, if_true, if_false, reduceIte, Nat.reduceBEq, Nat.reduceEqDiff, Nat.reduceLT, Nat.reduceAdd, reduceCtorEq, tyInt, tdInt, tyInts, tdInts, tyHull, tdHull, tyBoxes, tdBoxes, c_impl_Hull_tier, c_impl_HullValid, c_impl_Hull_slots, c_slices_Contains_int_int, c_impl_BoxesValid, c_impl_boxAt]
  repeat (refine And.intro ?_ ?_; focus (first | exact ordP (by kernel_rfl) | with_reducible exact rfl | assumption | trivial | (simp only [inR]; omega) | omega | (intro hh; (try obtain ⟨hh1, hh2⟩ := hh); (repeat' apply And.intro) <;> first | assumption | (simp only [inR]; omega) | omega | (intros; (repeat' apply And.intro) <;> first | assumption | (simp only [inR]; omega) | omega)) | (intros; (repeat' apply And.intro) <;> first | assumption | (simp only [inR]; omega) | omega | (simp_all; done) | (simp_all [inR]; omega))))
  refine hK1 _ ?_
  clear hK1
  refine W_seq (fun K2 hK2 => ?_)
  refine W_seq (fun K3 hK3 => ?_)
  refine W_region hT hG [] [1, 2, 3, 23] ?_
  rw [hnt]
  simp only [baseS, eq_self, implies_true, if_true, if_false, reduceIte, Nat.reduceBEq, Nat.reduceEqDiff, Nat.reduceLT, Nat.reduceAdd, reduceCtorEq, tyInt, tdInt, tyInts, tdInts, tyHull, tdHull, tyBoxes, tdBoxes, c_impl_Hull_tier, c_impl_HullValid, c_impl_Hull_slots, c_slices_Contains_int_int, c_impl_BoxesValid, c_impl_boxAt]
  repeat (refine And.intro ?_ ?_; focus (first | exact ordP (by kernel_rfl) | with_reducible exact rfl | assumption | trivial | (simp only [inR]; omega) | omega | (intro hh; (try obtain ⟨hh1, hh2⟩ := hh); (repeat' apply And.intro) <;> first | assumption | (simp only [inR]; omega) | omega | (intros; (repeat' apply And.intro) <;> first | assumption | (simp only [inR]; omega) | omega)) | (intros; (repeat' apply And.intro) <;> first | assumption | (simp only [inR]; omega) | omega | (simp_all; done) | (simp_all [inR]; omega))))
  refine hK3 _ ?_
  clear hK3
  refine W_cond (b := _) rfl (fun hc4 => ?_) (fun hc4 => ?_)
  · try simp only [decide_eq_true_eq, decide_eq_false_iff_not, ne_eq, Decidable.not_not, Bool.not_eq_true', Bool.not_eq_false', Bool.or_eq_true, Bool.and_eq_true, Bool.or_eq_false_iff, Bool.and_eq_false_iff] at hc4
    refine W_seq (fun K5 hK5 => ?_)
    refine W_region hT hG [] [6] ?_
    rw [hnt]
    simp only [baseS, eq_self, implies_true, if_true, if_false, reduceIte, Nat.reduceBEq, Nat.reduceEqDiff, Nat.reduceLT, Nat.reduceAdd, reduceCtorEq, tyInt, tdInt, tyInts, tdInts, tyHull, tdHull, tyBoxes, tdBoxes, c_impl_Hull_tier, c_impl_HullValid, c_impl_Hull_slots, c_slices_Contains_int_int, c_impl_BoxesValid, c_impl_boxAt]
    repeat (refine And.intro ?_ ?_; focus (first | exact ordP (by kernel_rfl) | with_reducible exact rfl | assumption | trivial | (simp only [inR]; omega) | omega | (intro hh; (try obtain ⟨hh1, hh2⟩ := hh); (repeat' apply And.intro) <;> first | assumption | (simp only [inR]; omega) | omega | (intros; (repeat' apply And.intro) <;> first | assumption | (simp only [inR]; omega) | omega)) | (intros; (repeat' apply And.intro) <;> first | assumption | (simp only [inR]; omega) | omega | (simp_all; done) | (simp_all [inR]; omega))))
    refine hK5 _ ?_
    clear hK5
    refine W_ret ?_
    simp only [thenQ, blockQ, loopQ, retQ, reduceIte, Nat.reduceEqDiff]
    refine ret0 ?_ rfl rfl (.inr rfl) rfl
    simp only [show Try.f47.results.toList = [ResultVar.tmp 6] from rfl, resAV, resL, look, Nat.reduceEqDiff, reduceIte, tyHull, tdHull, applyUps, noH, isStr, List.length_cons, List.length_nil, Nat.reduceAdd, and_self]
    all_goals (
      refine congrArg (fun x => some (AV.bool x)) ?_
      first | exact planB_no1 hc4 | exact planB_yes hc4 hI hc4 | exact planB_bad hi0 (by omega) (slOK_not hi0 HCPREV hc4))
  · try simp only [decide_eq_true_eq, decide_eq_false_iff_not, ne_eq, Decidable.not_not, Bool.not_eq_true', Bool.not_eq_false', Bool.or_eq_true, Bool.and_eq_true, Bool.or_eq_false_iff, Bool.and_eq_false_iff] at hc4
    refine W_skip ?_
    simp only [thenQ, blockQ, loopQ, reduceIte, Nat.reduceEqDiff]
    refine hK2 _ ?_
    clear hK2
    refine W_seq (fun K6 hK6 => ?_)
    refine W_seq (fun K7 hK7 => ?_)
    refine W_region hT hG [] [1, 2, 3, 24, 25, 26] ?_
    rw [hnt]
    simp only [baseS, eq_self, implies_true, if_true, if_false, reduceIte, Nat.reduceBEq, Nat.reduceEqDiff, Nat.reduceLT, Nat.reduceAdd, reduceCtorEq, tyInt, tdInt, tyInts, tdInts, tyHull, tdHull, tyBoxes, tdBoxes, c_impl_Hull_tier, c_impl_HullValid, c_impl_Hull_slots, c_slices_Contains_int_int, c_impl_BoxesValid, c_impl_boxAt]
    repeat (refine And.intro ?_ ?_; focus (first | exact ordP (by kernel_rfl) | with_reducible exact rfl | assumption | trivial | (simp only [inR]; omega) | omega | (intro hh; (try obtain ⟨hh1, hh2⟩ := hh); (repeat' apply And.intro) <;> first | assumption | (simp only [inR]; omega) | omega | (intros; (repeat' apply And.intro) <;> first | assumption | (simp only [inR]; omega) | omega)) | (intros; (repeat' apply And.intro) <;> first | assumption | (simp only [inR]; omega) | omega | (simp_all; done) | (simp_all [inR]; omega))))
    refine hK7 _ ?_
    clear hK7
    refine W_block ?_
    refine W_loop (α := Int) [(1, .as), (2, .as), (3, .as), (24, .as), (25, .as), (26, .as)] (fun i => ⟨[(1, .rs .box bs), (2, .rs .i64 p), (3, .rp [.int b, .int r, .int t]), (24, .rs .i64 p), (25, .int p.length), (26, .int i)], [], 59⟩) (fun i => 0 ≤ i ∧ i ≤ p.length ∧ ∀ k : Nat, (k : Int) < i → slOK t bs p k = true) (fun i => (p.length - i).toNat) 0 ?_ ?_ ?_
    · (try simp only [hnt, hnp]); rfl
    · exact ⟨by omega, by omega, fun k hk => by omega⟩
    rintro i ⟨hi0, hi1, hI⟩
    have hq := hbb hc4.1.1
    have hlen := hc4.2
    have htk : (p.take i.toNat).length ≤ 9223372036854775807 := by rw [List.length_take]; omega
    have hpos : 0 < i % t → 0 ≤ i - 1 := fun h => by
      by_cases e : i = 0
      · subst e; simp at h
      · omega
    refine W_seq (fun K9 hK9 => ?_)
    refine W_region hT hG [] [1, 2, 3, 24, 25, 26, 27] ?_
    rw [hnt]
    simp only [baseS, eq_self, implies_true, if_true, if_false, reduceIte, Nat.reduceBEq, Nat.reduceEqDiff, Nat.reduceLT, Nat.reduceAdd, reduceCtorEq, tyInt, tdInt, tyInts, tdInts, tyHull, tdHull, tyBoxes, tdBoxes, c_impl_Hull_tier, c_impl_HullValid, c_impl_Hull_slots, c_slices_Contains_int_int, c_impl_BoxesValid, c_impl_boxAt]
    repeat (refine And.intro ?_ ?_; focus (first | exact ordP (by kernel_rfl) | with_reducible exact rfl | assumption | trivial | (simp only [inR]; omega) | omega | (intro hh; (try obtain ⟨hh1, hh2⟩ := hh); (repeat' apply And.intro) <;> first | assumption | (simp only [inR]; omega) | omega | (intros; (repeat' apply And.intro) <;> first | assumption | (simp only [inR]; omega) | omega)) | (intros; (repeat' apply And.intro) <;> first | assumption | (simp only [inR]; omega) | omega | (simp_all; done) | (simp_all [inR]; omega))))
    refine hK9 _ ?_
    clear hK9
    refine W_seq (fun K10 hK10 => ?_)
    refine W_cond (b := _) rfl (fun hc11 => ?_) (fun hc11 => ?_)
    · try simp only [decide_eq_true_eq, decide_eq_false_iff_not, ne_eq, Decidable.not_not, Bool.not_eq_true', Bool.not_eq_false', Bool.or_eq_true, Bool.and_eq_true, Bool.or_eq_false_iff, Bool.and_eq_false_iff] at hc11
      refine W_skip ?_
      simp only [thenQ, blockQ, loopQ, reduceIte, Nat.reduceEqDiff]
      refine hK10 _ ?_
      clear hK10
      refine W_seq (fun K12 hK12 => ?_)
      refine W_block ?_
      refine W_seq (fun K13 hK13 => ?_)
      refine W_region hT hG [] [1, 2, 3, 7, 8, 24, 25, 26] ?_
      rw [hnt]
      simp only [baseS, eq_self, implies_true, if_true, if_false, reduceIte, Nat.reduceBEq, Nat.reduceEqDiff, Nat.reduceLT, Nat.reduceAdd, reduceCtorEq, tyInt, tdInt, tyInts, tdInts, tyHull, tdHull, tyBoxes, tdBoxes, c_impl_Hull_tier, c_impl_HullValid, c_impl_Hull_slots, c_slices_Contains_int_int, c_impl_BoxesValid, c_impl_boxAt]
      repeat (refine And.intro ?_ ?_; focus (first | exact ordP (by kernel_rfl) | with_reducible exact rfl | assumption | trivial | (simp only [inR]; omega) | omega | (intro hh; (try obtain ⟨hh1, hh2⟩ := hh); (repeat' apply And.intro) <;> first | assumption | (simp only [inR]; omega) | omega | (intros; (repeat' apply And.intro) <;> first | assumption | (simp only [inR]; omega) | omega)) | (intros; (repeat' apply And.intro) <;> first | assumption | (simp only [inR]; omega) | omega | (simp_all; done) | (simp_all [inR]; omega))))
      refine hK13 _ ?_
      clear hK13
      refine W_seq (fun K14 hK14 => ?_)
      refine W_seq (fun K15 hK15 => ?_)
      refine W_region hT hG [] [1, 2, 3, 7, 8, 24, 25, 26, 32] ?_
      rw [hnt]
      simp only [baseS, eq_self, implies_true, if_true, if_false, reduceIte, Nat.reduceBEq, Nat.reduceEqDiff, Nat.reduceLT, Nat.reduceAdd, reduceCtorEq, tyInt, tdInt, tyInts, tdInts, tyHull, tdHull, tyBoxes, tdBoxes, c_impl_Hull_tier, c_impl_HullValid, c_impl_Hull_slots, c_slices_Contains_int_int, c_impl_BoxesValid, c_impl_boxAt]
      repeat (refine And.intro ?_ ?_; focus (first | exact ordP (by kernel_rfl) | with_reducible exact rfl | assumption | trivial | (simp only [inR]; omega) | omega | (intro hh; (try obtain ⟨hh1, hh2⟩ := hh); (repeat' apply And.intro) <;> first | assumption | (simp only [inR]; omega) | omega | (intros; (repeat' apply And.intro) <;> first | assumption | (simp only [inR]; omega) | omega)) | (intros; (repeat' apply And.intro) <;> first | assumption | (simp only [inR]; omega) | omega | (simp_all; done) | (simp_all [inR]; omega))))
      refine hK15 _ ?_
      clear hK15
      refine W_cond (b := _) rfl (fun hc16 => ?_) (fun hc16 => ?_)
      · try simp only [decide_eq_true_eq, decide_eq_false_iff_not, ne_eq, Decidable.not_not, Bool.not_eq_true', Bool.not_eq_false', Bool.or_eq_true, Bool.and_eq_true, Bool.or_eq_false_iff, Bool.and_eq_false_iff] at hc16
        refine W_exit ?_
        simp only [thenQ, blockQ, loopQ, reduceIte, Nat.reduceEqDiff]
        refine hK12 _ ?_
        clear hK12
        refine W_region hT hG [] [1, 2, 3, 24, 25, 26] ?_
        rw [hnt]
        simp only [baseS, eq_self, implies_true, if_true, if_false, reduceIte, Nat.reduceBEq, Nat.reduceEqDiff, Nat.reduceLT, Nat.reduceAdd, reduceCtorEq, tyInt, tdInt, tyInts, tdInts, tyHull, tdHull, tyBoxes, tdBoxes, c_impl_Hull_tier, c_impl_HullValid, c_impl_Hull_slots, c_slices_Contains_int_int, c_impl_BoxesValid, c_impl_boxAt]
        repeat (refine And.intro ?_ ?_; focus (first | exact ordP (by kernel_rfl) | with_reducible exact rfl | assumption | trivial | (simp only [inR]; omega) | omega | (intro hh; (try obtain ⟨hh1, hh2⟩ := hh); (repeat' apply And.intro) <;> first | assumption | (simp only [inR]; omega) | omega | (intros; (repeat' apply And.intro) <;> first | assumption | (simp only [inR]; omega) | omega)) | (intros; (repeat' apply And.intro) <;> first | assumption | (simp only [inR]; omega) | omega | (simp_all; done) | (simp_all [inR]; omega))))
        refine ⟨i + 1, (by (try simp only [hnt, hnp]); rfl), ⟨by omega, by omega, all_next hi0 hI (by first | exact slOK_of hi0 (.inl hc16) | exact slOK_yes hi0 hc16)⟩, by dsimp only; omega⟩
      · try simp only [decide_eq_true_eq, decide_eq_false_iff_not, ne_eq, Decidable.not_not, Bool.not_eq_true', Bool.not_eq_false', Bool.or_eq_true, Bool.and_eq_true, Bool.or_eq_false_iff, Bool.and_eq_false_iff] at hc16
        refine W_skip ?_
        simp only [thenQ, blockQ, loopQ, reduceIte, Nat.reduceEqDiff]
        refine hK14 _ ?_
        clear hK14
        refine W_seq (fun K17 hK17 => ?_)
        refine W_region hT hG [] [1, 2, 3, 24, 25, 26, 57] ?_
        rw [hnt]
        simp only [baseS, eq_self, implies_true, if_true, if_false, reduceIte, Nat.reduceBEq, Nat.reduceEqDiff, Nat.reduceLT, Nat.reduceAdd, reduceCtorEq, tyInt, tdInt, tyInts, tdInts, tyHull, tdHull, tyBoxes, tdBoxes, c_impl_Hull_tier, c_impl_HullValid, c_impl_Hull_slots, c_slices_Contains_int_int, c_impl_BoxesValid, c_impl_boxAt]
        repeat (refine And.intro ?_ ?_; focus (first | exact ordP (by kernel_rfl) | with_reducible exact rfl | assumption | trivial | (simp only [inR]; omega) | omega | (intro hh; (try obtain ⟨hh1, hh2⟩ := hh); (repeat' apply And.intro) <;> first | assumption | (simp only [inR]; omega) | omega | (intros; (repeat' apply And.intro) <;> first | assumption | (simp only [inR]; omega) | omega)) | (intros; (repeat' apply And.intro) <;> first | assumption | (simp only [inR]; omega) | omega | (simp_all; done) | (simp_all [inR]; omega))))
        refine hK17 _ ?_
        clear hK17
        refine W_cond (b := _) rfl (fun hc18 => ?_) (fun hc18 => ?_)
        · try simp only [decide_eq_true_eq, decide_eq_false_iff_not, ne_eq, Decidable.not_not, Bool.not_eq_true', Bool.not_eq_false', Bool.or_eq_true, Bool.and_eq_true, Bool.or_eq_false_iff, Bool.and_eq_false_iff] at hc18
          refine W_seq (fun K19 hK19 => ?_)
          refine W_region hT hG [] [6] ?_
          rw [hnt]
          simp only [baseS, eq_self, implies_true, if_true, if_false, reduceIte, Nat.reduceBEq, Nat.reduceEqDiff, Nat.reduceLT, Nat.reduceAdd, reduceCtorEq, tyInt, tdInt, tyInts, tdInts, tyHull, tdHull, tyBoxes, tdBoxes, c_impl_Hull_tier, c_impl_HullValid, c_impl_Hull_slots, c_slices_Contains_int_int, c_impl_BoxesValid, c_impl_boxAt]
          repeat (refine And.intro ?_ ?_; focus (first | exact ordP (by kernel_rfl) | with_reducible exact rfl | assumption | trivial | (simp only [inR]; omega) | omega | (intro hh; (try obtain ⟨hh1, hh2⟩ := hh); (repeat' apply And.intro) <;> first | assumption | (simp only [inR]; omega) | omega | (intros; (repeat' apply And.intro) <;> first | assumption | (simp only [inR]; omega) | omega)) | (intros; (repeat' apply And.intro) <;> first | assumption | (simp only [inR]; omega) | omega | (simp_all; done) | (simp_all [inR]; omega))))
          refine hK19 _ ?_
          clear hK19
          refine W_ret ?_
          simp only [thenQ, blockQ, loopQ, retQ, reduceIte, Nat.reduceEqDiff]
          refine ret0 ?_ rfl rfl (.inr rfl) rfl
          simp only [show Try.f47.results.toList = [ResultVar.tmp 6] from rfl, resAV, resL, look, Nat.reduceEqDiff, reduceIte, tyHull, tdHull, applyUps, noH, isStr, List.length_cons, List.length_nil, Nat.reduceAdd, and_self]
          all_goals (
            refine congrArg (fun x => some (AV.bool x)) ?_
            first | exact planB_no1 hc18 | exact planB_yes hc4 hI hc18 | exact planB_bad hi0 (by omega) (slOK_not hi0 hc16 hc18))
        · try simp only [decide_eq_true_eq, decide_eq_false_iff_not, ne_eq, Decidable.not_not, Bool.not_eq_true', Bool.not_eq_false', Bool.or_eq_true, Bool.and_eq_true, Bool.or_eq_false_iff, Bool.and_eq_false_iff] at hc18
          refine W_skip ?_
          simp only [thenQ, blockQ, loopQ, reduceIte, Nat.reduceEqDiff]
          refine hK12 _ ?_
          clear hK12
          refine W_region hT hG [] [1, 2, 3, 24, 25, 26] ?_
          rw [hnt]
          simp only [baseS, eq_self, implies_true, if_true, if_false, reduceIte, Nat.reduceBEq, Nat.reduceEqDiff, Nat.reduceLT, Nat.reduceAdd, reduceCtorEq, tyInt, tdInt, tyInts, tdInts, tyHull, tdHull, tyBoxes, tdBoxes, c_impl_Hull_tier, c_impl_HullValid, c_impl_Hull_slots, c_slices_Contains_int_int, c_impl_BoxesValid, c_impl_boxAt]
          repeat (refine And.intro ?_ ?_; focus (first | exact ordP (by kernel_rfl) | with_reducible exact rfl | assumption | trivial | (simp only [inR]; omega) | omega | (intro hh; (try obtain ⟨hh1, hh2⟩ := hh); (repeat' apply And.intro) <;> first | assumption | (simp only [inR]; omega) | omega | (intros; (repeat' apply And.intro) <;> first | assumption | (simp only [inR]; omega) | omega)) | (intros; (repeat' apply And.intro) <;> first | assumption | (simp only [inR]; omega) | omega | (simp_all; done) | (simp_all [inR]; omega))))
          refine ⟨i + 1, (by (try simp only [hnt, hnp]); rfl), ⟨by omega, by omega, all_next hi0 hI (by first | exact slOK_of hi0 (.inl hc18) | exact slOK_yes hi0 hc18)⟩, by dsimp only; omega⟩
    · try simp only [decide_eq_true_eq, decide_eq_false_iff_not, ne_eq, Decidable.not_not, Bool.not_eq_true', Bool.not_eq_false', Bool.or_eq_true, Bool.and_eq_true, Bool.or_eq_false_iff, Bool.and_eq_false_iff] at hc11
      refine W_exit ?_
      simp only [thenQ, blockQ, loopQ, reduceIte, Nat.reduceEqDiff]
      refine hK6 _ ?_
      clear hK6
      refine W_seq (fun K20 hK20 => ?_)
      refine W_region hT hG [] [6] ?_
      rw [hnt]
      simp only [baseS, eq_self, implies_true, if_true, if_false, reduceIte, Nat.reduceBEq, Nat.reduceEqDiff, Nat.reduceLT, Nat.reduceAdd, reduceCtorEq, tyInt, tdInt, tyInts, tdInts, tyHull, tdHull, tyBoxes, tdBoxes, c_impl_Hull_tier, c_impl_HullValid, c_impl_Hull_slots, c_slices_Contains_int_int, c_impl_BoxesValid, c_impl_boxAt]
      repeat (refine And.intro ?_ ?_; focus (first | exact ordP (by kernel_rfl) | with_reducible exact rfl | assumption | trivial | (simp only [inR]; omega) | omega | (intro hh; (try obtain ⟨hh1, hh2⟩ := hh); (repeat' apply And.intro) <;> first | assumption | (simp only [inR]; omega) | omega | (intros; (repeat' apply And.intro) <;> first | assumption | (simp only [inR]; omega) | omega)) | (intros; (repeat' apply And.intro) <;> first | assumption | (simp only [inR]; omega) | omega | (simp_all; done) | (simp_all [inR]; omega))))
      refine hK20 _ ?_
      clear hK20
      refine W_ret ?_
      simp only [thenQ, blockQ, loopQ, retQ, reduceIte, Nat.reduceEqDiff]
      refine ret0 ?_ rfl rfl (.inr rfl) rfl
      simp only [show Try.f47.results.toList = [ResultVar.tmp 6] from rfl, resAV, resL, look, Nat.reduceEqDiff, reduceIte, tyHull, tdHull, applyUps, noH, isStr, List.length_cons, List.length_nil, Nat.reduceAdd, and_self]
      all_goals (
        refine congrArg (fun x => some (AV.bool x)) ?_
        first | exact planB_no1 hc11 | exact planB_yes hc4 hI hc11 | exact planB_bad hi0 (by omega) (slOK_not hi0 hc4 hc11))

def c_spec_PlanValid : Ctr where
  modes := [.v .p, .v (.r .box), .v (.r .i64)]
  al := false
  run := fun xs os => match xs, os with
    | [.agg [.int b, .int r, .int t], .rs .box bs, .rs .i64 p], [] => some ⟨bs.length ≤ 9223372036854775807 ∧ p.length ≤ 9223372036854775807, .bool (planB b r t bs p), [], []⟩
    | _, _ => none
theorem m_spec_PlanValid : Meets Try.prog 39 c_spec_PlanValid := by
  refine meets_of (T := tyT) tyOK Try.func39 (by rfl) rfl (by decide) ?_
  intro args owns R hrun hpre
  simp only [c_spec_PlanValid] at hrun
  split at hrun
  case h_2 => cases hrun
  rename_i b r t bs p
  cases hrun
  try dsimp only at hpre
  refine ⟨_, rfl, fun E hP hnt hnp => ?_⟩
  replace hnt : E.nt = 66 := hnt
  replace hnp : E.np = 3 := hnp
  have hT : ∀ t d, tyT t = some d → TyOK E.P t d := hP ▸ tyOK
  have hG : ∀ f C, Γof [(67, c_spec_l1Has), (81, c_spec_HullValid), (82, c_spec_BoxesValid), (83, c_spec_SlotMany), (84, c_spec_SlotBelow), (85, c_spec_l2Find)] f = some C → Meets E.P f C := hΓof (by rw [hP]; exact ⟨m_spec_l1Has, m_spec_HullValid, m_spec_BoxesValid, m_spec_SlotMany, m_spec_SlotBelow, m_spec_l2Find, trivial⟩)
  try simp only [show Try.f39.ntmps = 66 from rfl]
  have hbs := hpre.1
  have hp := hpre.2
  have hbb := @hv_box b r t
  have hmy : hv b r t = true → many b r t = b * r * t := fun h => by rw [many, if_pos h]
  refine W_seq (fun K1 hK1 => ?_)
  refine W_region hT hG [] [1, 2, 3] ?_
  rw [hnt]
  simp only [baseS, eq_self, implies_true, if_true, if_false, reduceIte, Nat.reduceBEq, Nat.reduceEqDiff, Nat.reduceLT, Nat.reduceAdd, reduceCtorEq, tyInt, tdInt, tyInts, tdInts, tyHull, tdHull, tyBoxes, tdBoxes, c_spec_l1Has, c_spec_HullValid, c_spec_BoxesValid, c_spec_SlotMany, c_spec_SlotBelow, c_spec_l2Find]
  repeat (refine And.intro ?_ ?_; focus (first | exact ordP (by kernel_rfl) | with_reducible exact rfl | assumption | trivial | (simp only [inR]; omega) | omega | (intro hh; (try obtain ⟨hh1, hh2⟩ := hh); (repeat' apply And.intro) <;> first | assumption | (simp only [inR]; omega) | omega | (intros; (repeat' apply And.intro) <;> first | assumption | (simp only [inR]; omega) | omega)) | (intros; (repeat' apply And.intro) <;> first | assumption | (simp only [inR]; omega) | omega | (simp_all; done) | (simp_all [inR]; omega))))
  refine hK1 _ ?_
  clear hK1
  refine W_seq (fun K2 hK2 => ?_)
  refine W_seq (fun K3 hK3 => ?_)
  refine W_region hT hG [] [1, 2, 3, 23] ?_
  rw [hnt]
  simp only [baseS, eq_self, implies_true, if_true, if_false, reduceIte, Nat.reduceBEq, Nat.reduceEqDiff, Nat.reduceLT, Nat.reduceAdd, reduceCtorEq, tyInt, tdInt, tyInts, tdInts, tyHull, tdHull, tyBoxes, tdBoxes, c_spec_l1Has, c_spec_HullValid, c_spec_BoxesValid, c_spec_SlotMany, c_spec_SlotBelow, c_spec_l2Find]
  repeat (refine And.intro ?_ ?_; focus (first | exact ordP (by kernel_rfl) | with_reducible exact rfl | assumption | trivial | (simp only [inR]; omega) | omega | (intro hh; (try obtain ⟨hh1, hh2⟩ := hh); (repeat' apply And.intro) <;> first | assumption | (simp only [inR]; omega) | omega | (intros; (repeat' apply And.intro) <;> first | assumption | (simp only [inR]; omega) | omega)) | (intros; (repeat' apply And.intro) <;> first | assumption | (simp only [inR]; omega) | omega | (simp_all; done) | (simp_all [inR]; omega))))
  refine hK3 _ ?_
  clear hK3
  refine W_cond (b := _) rfl (fun hc4 => ?_) (fun hc4 => ?_)
  · try simp only [decide_eq_true_eq, decide_eq_false_iff_not, ne_eq, Decidable.not_not, Bool.not_eq_true', Bool.not_eq_false', Bool.or_eq_true, Bool.and_eq_true, Bool.or_eq_false_iff, Bool.and_eq_false_iff] at hc4
    refine W_seq (fun K5 hK5 => ?_)
    refine W_region hT hG [] [6] ?_
    rw [hnt]
    simp only [baseS, eq_self, implies_true, if_true, if_false, reduceIte, Nat.reduceBEq, Nat.reduceEqDiff, Nat.reduceLT, Nat.reduceAdd, reduceCtorEq, tyInt, tdInt, tyInts, tdInts, tyHull, tdHull, tyBoxes, tdBoxes, c_spec_l1Has, c_spec_HullValid, c_spec_BoxesValid, c_spec_SlotMany, c_spec_SlotBelow, c_spec_l2Find]
    repeat (refine And.intro ?_ ?_; focus (first | exact ordP (by kernel_rfl) | with_reducible exact rfl | assumption | trivial | (simp only [inR]; omega) | omega | (intro hh; (try obtain ⟨hh1, hh2⟩ := hh); (repeat' apply And.intro) <;> first | assumption | (simp only [inR]; omega) | omega | (intros; (repeat' apply And.intro) <;> first | assumption | (simp only [inR]; omega) | omega)) | (intros; (repeat' apply And.intro) <;> first | assumption | (simp only [inR]; omega) | omega | (simp_all; done) | (simp_all [inR]; omega))))
    refine hK5 _ ?_
    clear hK5
    refine W_ret ?_
    simp only [thenQ, blockQ, loopQ, retQ, reduceIte, Nat.reduceEqDiff]
    refine ret0 ?_ rfl rfl (.inr rfl) rfl
    simp only [show Try.f39.results.toList = [ResultVar.tmp 6] from rfl, resAV, resL, look, Nat.reduceEqDiff, reduceIte, tyHull, tdHull, applyUps, noH, isStr, List.length_cons, List.length_nil, Nat.reduceAdd, and_self]
    all_goals (
      refine congrArg (fun x => some (AV.bool x)) ?_
      first | exact planB_no2 hc4 | exact planB_yes ⟨hc4.1, by rw [hc4.2, hmy hc4.1.1]⟩ hI hc4 | exact planB_bad hi0 (by omega) (slOK_not hi0 HCPREV (hc4.imp id (bel_iff (hbe (by omega)) hi0).1)))
  · try simp only [decide_eq_true_eq, decide_eq_false_iff_not, ne_eq, Decidable.not_not, Bool.not_eq_true', Bool.not_eq_false', Bool.or_eq_true, Bool.and_eq_true, Bool.or_eq_false_iff, Bool.and_eq_false_iff] at hc4
    refine W_skip ?_
    simp only [thenQ, blockQ, loopQ, reduceIte, Nat.reduceEqDiff]
    refine hK2 _ ?_
    clear hK2
    refine W_seq (fun K6 hK6 => ?_)
    refine W_seq (fun K7 hK7 => ?_)
    refine W_region hT hG [] [1, 2, 3, 7] ?_
    rw [hnt]
    simp only [baseS, eq_self, implies_true, if_true, if_false, reduceIte, Nat.reduceBEq, Nat.reduceEqDiff, Nat.reduceLT, Nat.reduceAdd, reduceCtorEq, tyInt, tdInt, tyInts, tdInts, tyHull, tdHull, tyBoxes, tdBoxes, c_spec_l1Has, c_spec_HullValid, c_spec_BoxesValid, c_spec_SlotMany, c_spec_SlotBelow, c_spec_l2Find]
    repeat (refine And.intro ?_ ?_; focus (first | exact ordP (by kernel_rfl) | with_reducible exact rfl | assumption | trivial | (simp only [inR]; omega) | omega | (intro hh; (try obtain ⟨hh1, hh2⟩ := hh); (repeat' apply And.intro) <;> first | assumption | (simp only [inR]; omega) | omega | (intros; (repeat' apply And.intro) <;> first | assumption | (simp only [inR]; omega) | omega)) | (intros; (repeat' apply And.intro) <;> first | assumption | (simp only [inR]; omega) | omega | (simp_all; done) | (simp_all [inR]; omega))))
    refine hK7 _ ?_
    clear hK7
    refine W_block ?_
    refine W_loop (α := Int) [(1, .as), (2, .as), (3, .as), (7, .as)] (fun i => ⟨[(1, .rs .box bs), (2, .rs .i64 p), (3, .rp [.int b, .int r, .int t]), (7, .int i)], [], 66⟩) (fun i => 0 ≤ i ∧ i ≤ p.length ∧ ∀ k : Nat, (k : Int) < i → slOK t bs p k = true) (fun i => (p.length - i).toNat) 0 ?_ ?_ ?_
    · (try simp only [hnt, hnp]); rfl
    · exact ⟨by omega, by omega, fun k hk => by omega⟩
    rintro i ⟨hi0, hi1, hI⟩
    have hq := hbb hc4.1.1
    have hm1 := hmy hc4.1.1
    have hlen := hc4.2
    have htk : (p.take i.toNat).length ≤ 9223372036854775807 := by rw [List.length_take]; omega
    have hbe : i < p.length → belF b r t i = if 0 < i % t then i - 1 else -1 := fun h => belF_in hc4.1.1 hi0 (by omega)
    have hbl : i < p.length → belF b r t i < i := fun h => by rw [hbe h]; split <;> omega
    refine W_seq (fun K9 hK9 => ?_)
    refine W_seq (fun K10 hK10 => ?_)
    refine W_region hT hG [] [1, 2, 3, 7, 27] ?_
    rw [hnt]
    simp only [baseS, eq_self, implies_true, if_true, if_false, reduceIte, Nat.reduceBEq, Nat.reduceEqDiff, Nat.reduceLT, Nat.reduceAdd, reduceCtorEq, tyInt, tdInt, tyInts, tdInts, tyHull, tdHull, tyBoxes, tdBoxes, c_spec_l1Has, c_spec_HullValid, c_spec_BoxesValid, c_spec_SlotMany, c_spec_SlotBelow, c_spec_l2Find]
    repeat (refine And.intro ?_ ?_; focus (first | exact ordP (by kernel_rfl) | with_reducible exact rfl | assumption | trivial | (simp only [inR]; omega) | omega | (intro hh; (try obtain ⟨hh1, hh2⟩ := hh); (repeat' apply And.intro) <;> first | assumption | (simp only [inR]; omega) | omega | (intros; (repeat' apply And.intro) <;> first | assumption | (simp only [inR]; omega) | omega)) | (intros; (repeat' apply And.intro) <;> first | assumption | (simp only [inR]; omega) | omega | (simp_all; done) | (simp_all [inR]; omega))))
    refine hK10 _ ?_
    clear hK10
    refine W_cond (b := _) rfl (fun hc11 => ?_) (fun hc11 => ?_)
    · try simp only [decide_eq_true_eq, decide_eq_false_iff_not, ne_eq, Decidable.not_not, Bool.not_eq_true', Bool.not_eq_false', Bool.or_eq_true, Bool.and_eq_true, Bool.or_eq_false_iff, Bool.and_eq_false_iff] at hc11
      refine W_skip ?_
      simp only [thenQ, blockQ, loopQ, reduceIte, Nat.reduceEqDiff]
      refine hK9 _ ?_
      clear hK9
      refine W_seq (fun K12 hK12 => ?_)
      refine W_block ?_
      refine W_seq (fun K13 hK13 => ?_)
      refine W_seq (fun K14 hK14 => ?_)
      refine W_region hT hG [] [1, 2, 3, 7, 34] ?_
      rw [hnt]
      simp only [baseS, eq_self, implies_true, if_true, if_false, reduceIte, Nat.reduceBEq, Nat.reduceEqDiff, Nat.reduceLT, Nat.reduceAdd, reduceCtorEq, tyInt, tdInt, tyInts, tdInts, tyHull, tdHull, tyBoxes, tdBoxes, c_spec_l1Has, c_spec_HullValid, c_spec_BoxesValid, c_spec_SlotMany, c_spec_SlotBelow, c_spec_l2Find]
      repeat (refine And.intro ?_ ?_; focus (first | exact ordP (by kernel_rfl) | with_reducible exact rfl | assumption | trivial | (simp only [inR]; omega) | omega | (intro hh; (try obtain ⟨hh1, hh2⟩ := hh); (repeat' apply And.intro) <;> first | assumption | (simp only [inR]; omega) | omega | (intros; (repeat' apply And.intro) <;> first | assumption | (simp only [inR]; omega) | omega)) | (intros; (repeat' apply And.intro) <;> first | assumption | (simp only [inR]; omega) | omega | (simp_all; done) | (simp_all [inR]; omega))))
      refine hK14 _ ?_
      clear hK14
      refine W_cond (b := _) rfl (fun hc15 => ?_) (fun hc15 => ?_)
      · try simp only [decide_eq_true_eq, decide_eq_false_iff_not, ne_eq, Decidable.not_not, Bool.not_eq_true', Bool.not_eq_false', Bool.or_eq_true, Bool.and_eq_true, Bool.or_eq_false_iff, Bool.and_eq_false_iff] at hc15
        refine W_exit ?_
        simp only [thenQ, blockQ, loopQ, reduceIte, Nat.reduceEqDiff]
        refine hK12 _ ?_
        clear hK12
        refine W_region hT hG [] [1, 2, 3, 7] ?_
        rw [hnt]
        simp only [baseS, eq_self, implies_true, if_true, if_false, reduceIte, Nat.reduceBEq, Nat.reduceEqDiff, Nat.reduceLT, Nat.reduceAdd, reduceCtorEq, tyInt, tdInt, tyInts, tdInts, tyHull, tdHull, tyBoxes, tdBoxes, c_spec_l1Has, c_spec_HullValid, c_spec_BoxesValid, c_spec_SlotMany, c_spec_SlotBelow, c_spec_l2Find]
        repeat (refine And.intro ?_ ?_; focus (first | exact ordP (by kernel_rfl) | with_reducible exact rfl | assumption | trivial | (simp only [inR]; omega) | omega | (intro hh; (try obtain ⟨hh1, hh2⟩ := hh); (repeat' apply And.intro) <;> first | assumption | (simp only [inR]; omega) | omega | (intros; (repeat' apply And.intro) <;> first | assumption | (simp only [inR]; omega) | omega)) | (intros; (repeat' apply And.intro) <;> first | assumption | (simp only [inR]; omega) | omega | (simp_all; done) | (simp_all [inR]; omega))))
        refine ⟨i + 1, (by (try simp only [hnt, hnp]); rfl), ⟨by omega, by omega, all_next hi0 hI (by first | exact slOK_of hi0 (.inl hc15) | exact slOK_yes hi0 ⟨hc15.1, (bel_iff2 (hbe (by omega)) hi0).1 hc15.2⟩)⟩, by dsimp only; omega⟩
      · try simp only [decide_eq_true_eq, decide_eq_false_iff_not, ne_eq, Decidable.not_not, Bool.not_eq_true', Bool.not_eq_false', Bool.or_eq_true, Bool.and_eq_true, Bool.or_eq_false_iff, Bool.and_eq_false_iff] at hc15
        refine W_skip ?_
        simp only [thenQ, blockQ, loopQ, reduceIte, Nat.reduceEqDiff]
        refine hK13 _ ?_
        clear hK13
        refine W_seq (fun K16 hK16 => ?_)
        refine W_region hT hG [] [1, 2, 3, 7, 8] ?_
        rw [hnt]
        simp only [baseS, eq_self, implies_true, if_true, if_false, reduceIte, Nat.reduceBEq, Nat.reduceEqDiff, Nat.reduceLT, Nat.reduceAdd, reduceCtorEq, tyInt, tdInt, tyInts, tdInts, tyHull, tdHull, tyBoxes, tdBoxes, c_spec_l1Has, c_spec_HullValid, c_spec_BoxesValid, c_spec_SlotMany, c_spec_SlotBelow, c_spec_l2Find]
        repeat (refine And.intro ?_ ?_; focus (first | exact ordP (by kernel_rfl) | with_reducible exact rfl | assumption | trivial | (simp only [inR]; omega) | omega | (intro hh; (try obtain ⟨hh1, hh2⟩ := hh); (repeat' apply And.intro) <;> first | assumption | (simp only [inR]; omega) | omega | (intros; (repeat' apply And.intro) <;> first | assumption | (simp only [inR]; omega) | omega)) | (intros; (repeat' apply And.intro) <;> first | assumption | (simp only [inR]; omega) | omega | (simp_all; done) | (simp_all [inR]; omega))))
        refine hK16 _ ?_
        clear hK16
        refine W_seq (fun K17 hK17 => ?_)
        refine W_region_draw hT hG (by rw [hP]; exact draws_ok) [] [1, 2, 3, 7, 65] ?_
        rw [hnt]
        simp only [baseS, eq_self, implies_true, if_true, if_false, reduceIte, Nat.reduceBEq, Nat.reduceEqDiff, Nat.reduceLT, Nat.reduceAdd, reduceCtorEq, tyInt, tdInt, tyInts, tdInts, tyHull, tdHull, tyBoxes, tdBoxes, c_spec_l1Has, c_spec_HullValid, c_spec_BoxesValid, c_spec_SlotMany, c_spec_SlotBelow, c_spec_l2Find]
        repeat (refine And.intro ?_ ?_; focus (first | exact ordP (by kernel_rfl) | with_reducible exact rfl | assumption | trivial | (simp only [inR]; omega) | omega | (intro hh; (try obtain ⟨hh1, hh2⟩ := hh); (repeat' apply And.intro) <;> first | assumption | (simp only [inR]; omega) | omega | (intros; (repeat' apply And.intro) <;> first | assumption | (simp only [inR]; omega) | omega)) | (intros; (repeat' apply And.intro) <;> first | assumption | (simp only [inR]; omega) | omega | (simp_all; done) | (simp_all [inR]; omega))))
        refine hK17 _ ?_
        clear hK17
        refine W_cond (b := _) rfl (fun hc18 => ?_) (fun hc18 => ?_)
        · try simp only [decide_eq_true_eq, decide_eq_false_iff_not, ne_eq, Decidable.not_not, Bool.not_eq_true', Bool.not_eq_false', Bool.or_eq_true, Bool.and_eq_true, Bool.or_eq_false_iff, Bool.and_eq_false_iff] at hc18
          refine W_seq (fun K19 hK19 => ?_)
          refine W_region hT hG [] [6] ?_
          rw [hnt]
          simp only [baseS, eq_self, implies_true, if_true, if_false, reduceIte, Nat.reduceBEq, Nat.reduceEqDiff, Nat.reduceLT, Nat.reduceAdd, reduceCtorEq, tyInt, tdInt, tyInts, tdInts, tyHull, tdHull, tyBoxes, tdBoxes, c_spec_l1Has, c_spec_HullValid, c_spec_BoxesValid, c_spec_SlotMany, c_spec_SlotBelow, c_spec_l2Find]
          repeat (refine And.intro ?_ ?_; focus (first | exact ordP (by kernel_rfl) | with_reducible exact rfl | assumption | trivial | (simp only [inR]; omega) | omega | (intro hh; (try obtain ⟨hh1, hh2⟩ := hh); (repeat' apply And.intro) <;> first | assumption | (simp only [inR]; omega) | omega | (intros; (repeat' apply And.intro) <;> first | assumption | (simp only [inR]; omega) | omega)) | (intros; (repeat' apply And.intro) <;> first | assumption | (simp only [inR]; omega) | omega | (simp_all; done) | (simp_all [inR]; omega))))
          refine hK19 _ ?_
          clear hK19
          refine W_ret ?_
          simp only [thenQ, blockQ, loopQ, retQ, reduceIte, Nat.reduceEqDiff]
          refine ret0 ?_ rfl rfl (.inr rfl) rfl
          simp only [show Try.f39.results.toList = [ResultVar.tmp 6] from rfl, resAV, resL, look, Nat.reduceEqDiff, reduceIte, tyHull, tdHull, applyUps, noH, isStr, List.length_cons, List.length_nil, Nat.reduceAdd, and_self]
          all_goals (
            refine congrArg (fun x => some (AV.bool x)) ?_
            first | exact planB_no2 hc18 | exact planB_yes ⟨hc4.1, by rw [hc4.2, hmy hc4.1.1]⟩ hI hc18 | exact planB_bad hi0 (by omega) (slOK_not hi0 hc15 (hc18.imp id (bel_iff (hbe (by omega)) hi0).1)))
        · try simp only [decide_eq_true_eq, decide_eq_false_iff_not, ne_eq, Decidable.not_not, Bool.not_eq_true', Bool.not_eq_false', Bool.or_eq_true, Bool.and_eq_true, Bool.or_eq_false_iff, Bool.and_eq_false_iff] at hc18
          refine W_skip ?_
          simp only [thenQ, blockQ, loopQ, reduceIte, Nat.reduceEqDiff]
          refine hK12 _ ?_
          clear hK12
          refine W_region hT hG [] [1, 2, 3, 7] ?_
          rw [hnt]
          simp only [baseS, eq_self, implies_true, if_true, if_false, reduceIte, Nat.reduceBEq, Nat.reduceEqDiff, Nat.reduceLT, Nat.reduceAdd, reduceCtorEq, tyInt, tdInt, tyInts, tdInts, tyHull, tdHull, tyBoxes, tdBoxes, c_spec_l1Has, c_spec_HullValid, c_spec_BoxesValid, c_spec_SlotMany, c_spec_SlotBelow, c_spec_l2Find]
          repeat (refine And.intro ?_ ?_; focus (first | exact ordP (by kernel_rfl) | with_reducible exact rfl | assumption | trivial | (simp only [inR]; omega) | omega | (intro hh; (try obtain ⟨hh1, hh2⟩ := hh); (repeat' apply And.intro) <;> first | assumption | (simp only [inR]; omega) | omega | (intros; (repeat' apply And.intro) <;> first | assumption | (simp only [inR]; omega) | omega)) | (intros; (repeat' apply And.intro) <;> first | assumption | (simp only [inR]; omega) | omega | (simp_all; done) | (simp_all [inR]; omega))))
          refine ⟨i + 1, (by (try simp only [hnt, hnp]); rfl), ⟨by omega, by omega, all_next hi0 hI (by first | exact slOK_of hi0 (.inl hc18) | exact slOK_yes hi0 ⟨hc18.1, (bel_iff2 (hbe (by omega)) hi0).1 hc18.2⟩)⟩, by dsimp only; omega⟩
    · try simp only [decide_eq_true_eq, decide_eq_false_iff_not, ne_eq, Decidable.not_not, Bool.not_eq_true', Bool.not_eq_false', Bool.or_eq_true, Bool.and_eq_true, Bool.or_eq_false_iff, Bool.and_eq_false_iff] at hc11
      refine W_exit ?_
      simp only [thenQ, blockQ, loopQ, reduceIte, Nat.reduceEqDiff]
      refine hK6 _ ?_
      clear hK6
      refine W_seq (fun K20 hK20 => ?_)
      refine W_region hT hG [] [6] ?_
      rw [hnt]
      simp only [baseS, eq_self, implies_true, if_true, if_false, reduceIte, Nat.reduceBEq, Nat.reduceEqDiff, Nat.reduceLT, Nat.reduceAdd, reduceCtorEq, tyInt, tdInt, tyInts, tdInts, tyHull, tdHull, tyBoxes, tdBoxes, c_spec_l1Has, c_spec_HullValid, c_spec_BoxesValid, c_spec_SlotMany, c_spec_SlotBelow, c_spec_l2Find]
      repeat (refine And.intro ?_ ?_; focus (first | exact ordP (by kernel_rfl) | with_reducible exact rfl | assumption | trivial | (simp only [inR]; omega) | omega | (intro hh; (try obtain ⟨hh1, hh2⟩ := hh); (repeat' apply And.intro) <;> first | assumption | (simp only [inR]; omega) | omega | (intros; (repeat' apply And.intro) <;> first | assumption | (simp only [inR]; omega) | omega)) | (intros; (repeat' apply And.intro) <;> first | assumption | (simp only [inR]; omega) | omega | (simp_all; done) | (simp_all [inR]; omega))))
      refine hK20 _ ?_
      clear hK20
      refine W_ret ?_
      simp only [thenQ, blockQ, loopQ, retQ, reduceIte, Nat.reduceEqDiff]
      refine ret0 ?_ rfl rfl (.inr rfl) rfl
      simp only [show Try.f39.results.toList = [ResultVar.tmp 6] from rfl, resAV, resL, look, Nat.reduceEqDiff, reduceIte, tyHull, tdHull, applyUps, noH, isStr, List.length_cons, List.length_nil, Nat.reduceAdd, and_self]
      all_goals (
        refine congrArg (fun x => some (AV.bool x)) ?_
        first | exact planB_no2 hc11 | exact planB_yes ⟨hc4.1, by rw [hc4.2, hmy hc4.1.1]⟩ hI hc11 | exact planB_bad hi0 (by omega) (slOK_not hi0 hc4 (hc11.imp id (bel_iff (hbe (by omega)) hi0).1)))

end Go.Proofs.Ytpiaeckkjdcifaa
