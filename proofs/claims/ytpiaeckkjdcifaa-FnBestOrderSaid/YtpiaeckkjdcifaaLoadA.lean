/- Plain laws of loads, and the weight of a box. No condition. -/
import Derived.Test.YtpiaeckkjdcifaaPlan
namespace Go.Proofs.Ytpiaeckkjdcifaa
open Go
set_option linter.unusedVariables false
set_option linter.unusedSimpArgs false

/-- The same row, and there is a box there. -/
def lowB (t : Int) (p : List Int) (f : Int → Bool) (k j : Nat) : Bool := decide ((j : Int) / t = (k : Int) / t) && decide (p.getD j 0 ≠ 0) && f (p.getD j 0)
def overB (t : Int) (bs : List BoxD) (p : List Int) (k : Nat) : Bool := decide (p.getD k 0 ≠ 0) && (List.range k).any (lowB t p (fun n => decide (pAt bs n < pAt bs (p.getD k 0))) k)
def overF (t : Int) (bs : List BoxD) (p : List Int) (n : Nat) : Int := sumTo (fun k => if overB t bs p k = true then 1 else 0) n
def offB (t : Int) (bs : List BoxD) (p : List Int) (port : Int) (k : Nat) : Bool := decide (p.getD k 0 ≠ 0) && (List.range (k + 1)).any (lowB t p (fun n => decide (pAt bs n = port)) k)
/-- The numbers below n that are chosen. -/
def selTo (P : Nat → Bool) : Nat → List Int
  | 0 => []
  | n + 1 => if P n = true then selTo P n ++ [(n : Int)] else selTo P n
theorem selTo_yes {P : Nat → Bool} {i : Int} (h : 0 ≤ i) (h1 : P i.toNat = true) : selTo P (i + 1).toNat = selTo P i.toNat ++ [i] := by
  have : (i + 1).toNat = i.toNat + 1 := by omega
  rw [this, selTo, if_pos h1]
  congr 2; omega
theorem selTo_no {P : Nat → Bool} {i : Int} (h : 0 ≤ i) (h1 : P i.toNat = false) : selTo P (i + 1).toNat = selTo P i.toNat := by
  have : (i + 1).toNat = i.toNat + 1 := by omega
  rw [this, selTo, if_neg (by simp [h1])]
theorem selTo_len (P : Nat → Bool) : ∀ n, (selTo P n).length ≤ n
  | 0 => by simp [selTo]
  | n + 1 => by
    have := selTo_len P n
    simp only [selTo]; split
    · simp; omega
    · omega
theorem selTo_congr {P Q : Nat → Bool} : ∀ {n : Nat}, (∀ k, k < n → P k = Q k) → selTo P n = selTo Q n
  | 0, _ => rfl
  | n + 1, h => by rw [selTo, selTo, selTo_congr (fun k hk => h k (by omega)), h n (by omega)]
theorem selTo_mem {P : Nat → Bool} {x : Int} : ∀ {n : Nat}, x ∈ selTo P n ↔ ∃ k : Nat, k < n ∧ (k : Int) = x ∧ P k = true
  | 0 => by simp [selTo]
  | n + 1 => by
    rw [selTo]
    split
    · rename_i h
      rw [List.mem_append, selTo_mem, List.mem_singleton]
      constructor
      · rintro (⟨k, h1, h2⟩ | h1)
        · exact ⟨k, by omega, h2⟩
        · exact ⟨n, by omega, h1.symm, h⟩
      · rintro ⟨k, h1, h2, h3⟩
        by_cases e : k = n
        · subst e; right; exact h2.symm
        · left; exact ⟨k, by omega, h2, h3⟩
    · rename_i h
      rw [selTo_mem]
      constructor
      · rintro ⟨k, h1, h2⟩; exact ⟨k, by omega, h2⟩
      · rintro ⟨k, h1, h2, h3⟩
        refine ⟨k, ?_, h2, h3⟩
        have : k ≠ n := fun e => h (e ▸ h3)
        omega
/-- In the same row: where. -/
theorem row_iff {t j k : Int} (ht : 1 ≤ t) (hj : 0 ≤ j) (h : j ≤ k) : j / t = k / t ↔ k - k % t ≤ j := by
  have h1 := Int.mul_ediv_add_emod j t
  have h2 := Int.mul_ediv_add_emod k t
  have h3 : 0 ≤ j % t := Int.emod_nonneg _ (by omega)
  have h4 : j % t < t := Int.emod_lt_of_pos _ (by omega)
  have h5 : 0 ≤ k % t := Int.emod_nonneg _ (by omega)
  constructor
  · intro e; rw [e] at h1; omega
  · intro e
    have h6 : j / t ≤ k / t := Int.ediv_le_ediv (by omega) h
    by_cases h7 : j / t = k / t
    · exact h7
    · exfalso
      have h8 : j / t + 1 ≤ k / t := by omega
      have h9 : t * (j / t + 1) ≤ t * (k / t) := Int.mul_le_mul_of_nonneg_left h8 (by omega)
      rw [Int.mul_add] at h9
      omega
theorem any_no {P : Nat → Bool} {n : Nat} (h : ∀ j, j < n → P j = false) : (List.range n).any P = false := by
  rw [List.any_eq_false]
  intro j hj
  simp [h j (List.mem_range.1 hj)]
theorem any_yes {P : Nat → Bool} {n j : Nat} (h : j < n) (h1 : P j = true) : (List.range n).any P = true := List.any_eq_true.2 ⟨j, List.mem_range.2 h, h1⟩
theorem any_step (P : Nat → Bool) {i : Int} (h : 0 ≤ i) : (List.range (i + 1).toNat).any P = ((List.range i.toNat).any P || P i.toNat) := by
  have : (i + 1).toNat = i.toNat + 1 := by omega
  rw [this, List.range_succ, List.any_append]; simp
theorem row_end {t n q : Int} (ht : 1 ≤ t) (h0 : 0 ≤ q) (h1 : q % t = 0) (h2 : q < n * t) : q + t ≤ n * t ∧ (q + t) % t = 0 := by
  have h3 := Int.mul_ediv_add_emod q t
  refine ⟨?_, by rw [Int.add_emod_right]; exact h1⟩
  have h4 : q / t < n := by rw [Int.ediv_lt_iff_lt_mul (by omega)]; exact h2
  have h5 : (q / t + 1) * t ≤ n * t := Int.mul_le_mul_of_nonneg_right (by omega) (by omega)
  rw [Int.add_mul, Int.one_mul, Int.mul_comm (q / t) t] at h5
  omega
def apStep (t : Int) (bs : List BoxD) (port : Int) (p : List Int) (k : Nat) (s : List Int × Int) : List Int × Int :=
  let to := if (k : Int) % t = 0 then (k : Int) else s.2
  if p.getD k 0 ≠ 0 ∧ pAt bs (p.getD k 0) ≠ port then (s.1.set to.toNat (p.getD k 0), to + 1) else (s.1, to)
/-- The plan behind a port, of the first n slots, and where the next box goes. -/
def apTo (t : Int) (bs : List BoxD) (port : Int) (p : List Int) : Nat → List Int × Int
  | 0 => (List.replicate p.length 0, 0)
  | n + 1 => apStep t bs port p n (apTo t bs port p n)
theorem apTo_le (t : Int) (bs : List BoxD) (port : Int) (p : List Int) : ∀ n, (apTo t bs port p n).1.length = p.length ∧ 0 ≤ (apTo t bs port p n).2 ∧ (apTo t bs port p n).2 ≤ n
  | 0 => by simp [apTo]
  | n + 1 => by
    have := apTo_le t bs port p n
    simp only [apTo, apStep]
    split <;> split <;> simp only [List.length_set] <;> omega
/-- The weight of a row, of the slots below n. -/
def rowW (t : Int) (bs : List BoxD) (p : List Int) (q : Int) (n : Nat) : Int := sumTo (fun k => if (k : Int) / t = q then wAt bs (p.getD k 0) else 0) n
/-- The weights of the first m rows. -/
def rowsW (t : Int) (bs : List BoxD) (p : List Int) (m n : Nat) : List Int := (List.range m).map fun (q : Nat) => rowW t bs p q n
theorem rowsW_len (t : Int) (bs : List BoxD) (p : List Int) (m n : Nat) : (rowsW t bs p m n).length = m := by simp [rowsW]
theorem rowsW_get {t : Int} {bs : List BoxD} {p : List Int} {m n q : Nat} (h : q < m) : (rowsW t bs p m n).getD q 0 = rowW t bs p q n := by
  simp [rowsW, List.getD_eq_getElem?_getD, h]
theorem rowW_step {t : Int} {bs : List BoxD} {p : List Int} {q i : Int} (h : 0 ≤ i) : rowW t bs p q (i + 1).toNat = rowW t bs p q i.toNat + if i / t = q then wAt bs (p.getD i.toNat 0) else 0 := by
  rw [rowW, sumTo_step _ h, rowW]
  have : ((i.toNat : Nat) : Int) = i := by omega
  simp only [this]
theorem rowsW_step {t : Int} {bs : List BoxD} {p : List Int} {m : Nat} {i : Int} (h : 0 ≤ i) (h1 : 0 ≤ i / t) (h2 : i / t < m) : rowsW t bs p m (i + 1).toNat = (rowsW t bs p m i.toNat).set (i / t).toNat ((rowsW t bs p m i.toNat).getD (i / t).toNat 0 + wAt bs (p.getD i.toNat 0)) := by
  have hq : (i / t).toNat < m := by omega
  apply List.ext_getElem
  · simp [rowsW]
  · intro q h3 h4
    have hm : q < m := by simpa [rowsW] using h3
    rw [List.getElem_set]
    simp only [rowsW_get hq]
    simp only [rowsW, List.getElem_map, List.getElem_range]
    rw [rowW_step h]
    by_cases e : i / t = (q : Int)
    · rw [if_pos e, if_pos (by omega), show (((i / t).toNat : Nat) : Int) = (q : Int) by omega]
    · rw [if_neg e, if_neg (by omega)]; omega
theorem rowW_low {t : Int} {bs : List BoxD} {p : List Int} {q : Int} (ht : 1 ≤ t) : ∀ n : Nat, (n : Int) ≤ q * t → rowW t bs p q n = 0
  | 0, _ => rfl
  | n + 1, h => by
    have h1 := rowW_low (bs := bs) (p := p) (q := q) ht n (by omega)
    simp only [rowW] at h1 ⊢
    rw [sumTo, h1, if_neg]
    · rfl
    · have : (n : Int) / t < q := by rw [Int.ediv_lt_iff_lt_mul (by omega)]; omega
      omega
theorem rowW_high {t : Int} {bs : List BoxD} {p : List Int} {q : Int} (ht : 1 ≤ t) (a : Nat) (ha : q * t + t ≤ a) : ∀ d : Nat, rowW t bs p q (a + d) = rowW t bs p q a
  | 0 => rfl
  | d + 1 => by
    have h1 := rowW_high (bs := bs) (p := p) ht a ha d
    simp only [rowW] at h1 ⊢
    rw [show a + (d + 1) = (a + d) + 1 from rfl, sumTo, h1, if_neg]
    · omega
    · have : q + 1 ≤ ((a + d : Nat) : Int) / t := by
        rw [Int.le_ediv_iff_mul_le (by omega), Int.add_mul]; omega
      omega
theorem mul_abs {w a c : Int} (h0 : 0 ≤ w) (h1 : w ≤ 30) (h2 : -c ≤ a) (h3 : a ≤ c) : -(30 * c) ≤ w * a ∧ w * a ≤ 30 * c := by
  have h4 : w * a ≤ w * c := Int.mul_le_mul_of_nonneg_left h3 h0
  have h5 : w * -c ≤ w * a := Int.mul_le_mul_of_nonneg_left h2 h0
  have h6 : 0 ≤ c := by omega
  have h7 : w * c ≤ 30 * c := Int.mul_le_mul_of_nonneg_right h1 h6
  have h8 : w * -c = -(w * c) := by rw [Int.mul_neg]
  omega
theorem slot_in {b r t : Int} {bs : List BoxD} {p : List Int} (h : PlanOK b r t bs p) {i : Int} (h0 : 0 ≤ i) (h1 : i < p.length) : inS b r t i = true := by
  have := h.len
  exact inS_of h.ship ⟨h0, by omega⟩
theorem bay_le {b r t i : Int} (h : inS b r t i = true) : i / t / r ≤ b - 1 := by
  have hb := inS_box h
  have e1 : i / t / r = i / (t * r) := Int.ediv_ediv_of_nonneg (by omega)
  have : i / (t * r) < b := by
    rw [Int.ediv_lt_iff_lt_mul (Int.mul_pos (by omega) (by omega))]
    have : b * (t * r) = b * r * t := by rw [Int.mul_assoc, Int.mul_comm t r]
    omega
  omega
theorem arm_box {b r t : Int} {bs : List BoxD} {p : List Int} (h : PlanOK b r t bs p) {i : Int} (h0 : 0 ≤ i) (h1 : i < p.length) :
    (plR b r t i = i / t % r ∧ plB b r t i = i / t / r) ∧ ((0 ≤ i / t ∧ i / t ≤ 35) ∧ (0 ≤ i / t % r ∧ i / t % r ≤ 2) ∧ (0 ≤ i / t / r ∧ i / t / r ≤ 3)) ∧ ((1 ≤ r ∧ r ≤ 3) ∧ (1 ≤ t ∧ t ≤ 3) ∧ (1 ≤ b ∧ b ≤ 4)) ∧
    (-60 ≤ wAt bs (p.getD i.toNat 0) * (2 * (i / t % r) - (r - 1)) ∧ wAt bs (p.getD i.toNat 0) * (2 * (i / t % r) - (r - 1)) ≤ 60) ∧
    (-90 ≤ wAt bs (p.getD i.toNat 0) * (2 * (i / t / r) - (b - 1)) ∧ wAt bs (p.getD i.toNat 0) * (2 * (i / t / r) - (b - 1)) ≤ 90) := by
  have hin := slot_in h h0 h1
  have hb := inS_box hin
  have hbay := bay_le hin
  have ht := hv_t h.ship
  have hw := wAt_le h.boxes (h.inb i.toNat)
  have q3 : 0 ≤ i / t % r := Int.emod_nonneg _ (by omega)
  have q4 : i / t % r < r := Int.emod_lt_of_pos _ (by omega)
  have m1 := mul_abs (c := 2) hw.1 hw.2 (a := 2 * (i / t % r) - (r - 1)) (by omega) (by omega)
  have m2 := mul_abs (c := 3) hw.1 hw.2 (a := 2 * (i / t / r) - (b - 1)) (by omega) (by omega)
  exact ⟨⟨by rw [plR, if_pos hin], by rw [plB, if_pos hin]⟩, ⟨by omega, by omega, by omega⟩, ⟨by omega, by omega, by omega⟩, by omega, by omega⟩
theorem heelF_step {r t : Int} {bs : List BoxD} {p : List Int} {i : Int} (h : 0 ≤ i) : heelF r t bs p (i + 1).toNat = heelF r t bs p i.toNat + wAt bs (p.getD i.toNat 0) * (2 * (i / t % r) - (r - 1)) := by
  rw [heelF, sumTo_step _ h, heelF, armH, Int.toNat_of_nonneg h]
theorem trimF_step {b r t : Int} {bs : List BoxD} {p : List Int} {i : Int} (h : 0 ≤ i) : trimF b r t bs p (i + 1).toNat = trimF b r t bs p i.toNat + wAt bs (p.getD i.toNat 0) * (2 * (i / t / r) - (b - 1)) := by
  rw [trimF, sumTo_step _ h, trimF, armT, Int.toNat_of_nonneg h]
def heelR (b r t : Int) (bs : List BoxD) (p : List Int) : Int := if planB b r t bs p = true then heelF r t bs p p.length else 0
def trimR (b r t : Int) (bs : List BoxD) (p : List Int) : Int := if planB b r t bs p = true then trimF b r t bs p p.length else 0

def c_impl_weightAt : Ctr where
  modes := [.v (.r .box), .v .p]
  al := false
  run := fun xs os => match xs, os with
    | [.rs .box bs, .int n], [] => some ⟨bs.length ≤ 9223372036854775807 ∧ inBx bs n, .int (wAt bs n), [], []⟩
    | _, _ => none
theorem m_impl_weightAt : Meets Try.prog 95 c_impl_weightAt := by
  refine meets_of (T := tyT) tyOK Try.func95 (by rfl) rfl (by decide) ?_
  intro args owns R hrun hpre
  simp only [c_impl_weightAt] at hrun
  split at hrun
  case h_2 => cases hrun
  rename_i bs n
  cases hrun
  try dsimp only at hpre
  refine ⟨_, rfl, fun E hP hnt hnp => ?_⟩
  replace hnt : E.nt = 14 := hnt
  replace hnp : E.np = 2 := hnp
  have hT : ∀ t d, tyT t = some d → TyOK E.P t d := hP ▸ tyOK
  have hG : ∀ f C, Γof [(98, c_impl_boxAt)] f = some C → Meets E.P f C := hΓof (by rw [hP]; exact ⟨m_impl_boxAt, trivial⟩)
  try simp only [show Try.f95.ntmps = 14 from rfl]
  have hbs := hpre.1
  have hin := hpre.2
  have hlt := @findF_lt bs n
  refine W_seq (fun K1 hK1 => ?_)
  refine W_region hT hG [] [0, 1] ?_
  rw [hnt]
  simp only [baseS, eq_self, implies_true, if_true, if_false, reduceIte, Nat.reduceBEq, Nat.reduceEqDiff, Nat.reduceLT, Nat.reduceAdd, reduceCtorEq, tyInt, tdInt, tyBoxes, tdBoxes, tyBox, tdBox, c_impl_boxAt]
  repeat (refine And.intro ?_ ?_; focus (first | exact ordP (by kernel_rfl) | with_reducible exact rfl | assumption | trivial | (simp only [inR]; omega) | omega | (intro hh; (try obtain ⟨hh1, hh2⟩ := hh); (repeat' apply And.intro) <;> first | assumption | (simp only [inR]; omega) | omega | (intros; (repeat' apply And.intro) <;> first | assumption | (simp only [inR]; omega) | omega)) | (intros; (repeat' apply And.intro) <;> first | assumption | (simp only [inR]; omega) | omega | (simp_all; done) | (simp_all [inR]; omega))))
  refine hK1 _ ?_
  clear hK1
  refine W_seq (fun K2 hK2 => ?_)
  refine W_seq (fun K3 hK3 => ?_)
  refine W_region hT hG [] [0, 1, 6] ?_
  rw [hnt]
  simp only [baseS, eq_self, implies_true, if_true, if_false, reduceIte, Nat.reduceBEq, Nat.reduceEqDiff, Nat.reduceLT, Nat.reduceAdd, reduceCtorEq, tyInt, tdInt, tyBoxes, tdBoxes, tyBox, tdBox, c_impl_boxAt]
  repeat (refine And.intro ?_ ?_; focus (first | exact ordP (by kernel_rfl) | with_reducible exact rfl | assumption | trivial | (simp only [inR]; omega) | omega | (intro hh; (try obtain ⟨hh1, hh2⟩ := hh); (repeat' apply And.intro) <;> first | assumption | (simp only [inR]; omega) | omega | (intros; (repeat' apply And.intro) <;> first | assumption | (simp only [inR]; omega) | omega)) | (intros; (repeat' apply And.intro) <;> first | assumption | (simp only [inR]; omega) | omega | (simp_all; done) | (simp_all [inR]; omega))))
  refine hK3 _ ?_
  clear hK3
  refine W_cond (b := _) rfl (fun hc4 => ?_) (fun hc4 => ?_)
  · try simp only [decide_eq_true_eq, decide_eq_false_iff_not, ne_eq, Decidable.not_not, Bool.not_eq_true', Bool.not_eq_false', Bool.or_eq_true, Bool.and_eq_true, Bool.or_eq_false_iff, Bool.and_eq_false_iff] at hc4
    refine W_seq (fun K5 hK5 => ?_)
    refine W_region hT hG [] [4] ?_
    rw [hnt]
    simp only [baseS, eq_self, implies_true, if_true, if_false, reduceIte, Nat.reduceBEq, Nat.reduceEqDiff, Nat.reduceLT, Nat.reduceAdd, reduceCtorEq, tyInt, tdInt, tyBoxes, tdBoxes, tyBox, tdBox, c_impl_boxAt]
    repeat (refine And.intro ?_ ?_; focus (first | exact ordP (by kernel_rfl) | with_reducible exact rfl | assumption | trivial | (simp only [inR]; omega) | omega | (intro hh; (try obtain ⟨hh1, hh2⟩ := hh); (repeat' apply And.intro) <;> first | assumption | (simp only [inR]; omega) | omega | (intros; (repeat' apply And.intro) <;> first | assumption | (simp only [inR]; omega) | omega)) | (intros; (repeat' apply And.intro) <;> first | assumption | (simp only [inR]; omega) | omega | (simp_all; done) | (simp_all [inR]; omega))))
    refine hK5 _ ?_
    clear hK5
    refine W_ret ?_
    simp only [thenQ, blockQ, loopQ, retQ, reduceIte, Nat.reduceEqDiff]
    refine ret0 ?_ rfl rfl (.inr rfl) rfl
    simp only [show Try.f95.results.toList = [ResultVar.tmp 4] from rfl, resAV, resL, look, Nat.reduceEqDiff, reduceIte, tyHull, tdHull, applyUps, noH, isStr, List.length_cons, List.length_nil, Nat.reduceAdd, and_self]
    all_goals (
      first | (rw [wAt, if_pos hc4]) | (rw [wAt, if_neg hc4]))
  · try simp only [decide_eq_true_eq, decide_eq_false_iff_not, ne_eq, Decidable.not_not, Bool.not_eq_true', Bool.not_eq_false', Bool.or_eq_true, Bool.and_eq_true, Bool.or_eq_false_iff, Bool.and_eq_false_iff] at hc4
    refine W_skip ?_
    simp only [thenQ, blockQ, loopQ, reduceIte, Nat.reduceEqDiff]
    refine hK2 _ ?_
    clear hK2
    refine W_seq (fun K6 hK6 => ?_)
    refine W_region hT hG [] [4] ?_
    rw [hnt]
    have hq := hlt (hin.resolve_left hc4)
    have hq2 := hin.resolve_left hc4
    simp only [baseS, eq_self, implies_true, if_true, if_false, reduceIte, Nat.reduceBEq, Nat.reduceEqDiff, Nat.reduceLT, Nat.reduceAdd, reduceCtorEq, tyInt, tdInt, tyBoxes, tdBoxes, tyBox, tdBox, c_impl_boxAt]
    repeat (refine And.intro ?_ ?_; focus (first | exact ordP (by kernel_rfl) | with_reducible exact rfl | assumption | trivial | (simp only [inR]; omega) | omega | (intro hh; (try obtain ⟨hh1, hh2⟩ := hh); (repeat' apply And.intro) <;> first | assumption | (simp only [inR]; omega) | omega | (intros; (repeat' apply And.intro) <;> first | assumption | (simp only [inR]; omega) | omega)) | (intros; (repeat' apply And.intro) <;> first | assumption | (simp only [inR]; omega) | omega | (simp_all; done) | (simp_all [inR]; omega))))
    refine hK6 _ ?_
    clear hK6
    refine W_ret ?_
    simp only [thenQ, blockQ, loopQ, retQ, reduceIte, Nat.reduceEqDiff]
    refine ret0 ?_ rfl rfl (.inr rfl) rfl
    simp only [show Try.f95.results.toList = [ResultVar.tmp 4] from rfl, resAV, resL, look, Nat.reduceEqDiff, reduceIte, tyHull, tdHull, applyUps, noH, isStr, List.length_cons, List.length_nil, Nat.reduceAdd, and_self]
    all_goals (
      first | (rw [wAt, if_pos hc4]) | (rw [wAt, if_neg hc4]))

def c_spec_l8Weight : Ctr where
  modes := [.v (.r .box), .v (.r .i64), .v .p]
  al := false
  run := fun xs os => match xs, os with
    | [.rs .box bs, .rs .i64 p, .int k], [] => some ⟨bs.length ≤ 9223372036854775807 ∧ (0 ≤ k ∧ k < p.length) ∧ inBx bs (p.getD k.toNat 0), .int (wAt bs (p.getD k.toNat 0)), [], []⟩
    | _, _ => none
theorem m_spec_l8Weight : Meets Try.prog 92 c_spec_l8Weight := by
  refine meets_of (T := tyT) tyOK Try.func92 (by rfl) rfl (by decide) ?_
  intro args owns R hrun hpre
  simp only [c_spec_l8Weight] at hrun
  split at hrun
  case h_2 => cases hrun
  rename_i bs p k
  cases hrun
  try dsimp only at hpre
  refine ⟨_, rfl, fun E hP hnt hnp => ?_⟩
  replace hnt : E.nt = 22 := hnt
  replace hnp : E.np = 3 := hnp
  have hT : ∀ t d, tyT t = some d → TyOK E.P t d := hP ▸ tyOK
  have hG : ∀ f C, Γof [(85, c_spec_l2Find)] f = some C → Meets E.P f C := hΓof (by rw [hP]; exact ⟨m_spec_l2Find, trivial⟩)
  try simp only [show Try.f92.ntmps = 22 from rfl]
  have hbs := hpre.1
  have hk := hpre.2.1
  have hin := hpre.2.2
  have hlt := @findF_lt bs (p.getD k.toNat 0)
  refine W_seq (fun K1 hK1 => ?_)
  refine W_region hT hG [] [0, 1, 2] ?_
  rw [hnt]
  simp only [baseS, eq_self, implies_true, if_true, if_false, reduceIte, Nat.reduceBEq, Nat.reduceEqDiff, Nat.reduceLT, Nat.reduceAdd, reduceCtorEq, tyInt, tdInt, tyInts, tdInts, tyBoxes, tdBoxes, tyBox, tdBox, c_spec_l2Find]
  repeat (refine And.intro ?_ ?_; focus (first | exact ordP (by kernel_rfl) | with_reducible exact rfl | assumption | trivial | (simp only [inR]; omega) | omega | (intro hh; (try obtain ⟨hh1, hh2⟩ := hh); (repeat' apply And.intro) <;> first | assumption | (simp only [inR]; omega) | omega | (intros; (repeat' apply And.intro) <;> first | assumption | (simp only [inR]; omega) | omega)) | (intros; (repeat' apply And.intro) <;> first | assumption | (simp only [inR]; omega) | omega | (simp_all; done) | (simp_all [inR]; omega))))
  refine hK1 _ ?_
  clear hK1
  refine W_seq (fun K2 hK2 => ?_)
  refine W_seq (fun K3 hK3 => ?_)
  refine W_region hT hG [] [0, 1, 2, 11] ?_
  rw [hnt]
  simp only [baseS, eq_self, implies_true, if_true, if_false, reduceIte, Nat.reduceBEq, Nat.reduceEqDiff, Nat.reduceLT, Nat.reduceAdd, reduceCtorEq, tyInt, tdInt, tyInts, tdInts, tyBoxes, tdBoxes, tyBox, tdBox, c_spec_l2Find]
  repeat (refine And.intro ?_ ?_; focus (first | exact ordP (by kernel_rfl) | with_reducible exact rfl | assumption | trivial | (simp only [inR]; omega) | omega | (intro hh; (try obtain ⟨hh1, hh2⟩ := hh); (repeat' apply And.intro) <;> first | assumption | (simp only [inR]; omega) | omega | (intros; (repeat' apply And.intro) <;> first | assumption | (simp only [inR]; omega) | omega)) | (intros; (repeat' apply And.intro) <;> first | assumption | (simp only [inR]; omega) | omega | (simp_all; done) | (simp_all [inR]; omega))))
  refine hK3 _ ?_
  clear hK3
  refine W_cond (b := _) rfl (fun hc4 => ?_) (fun hc4 => ?_)
  · try simp only [decide_eq_true_eq, decide_eq_false_iff_not, ne_eq, Decidable.not_not, Bool.not_eq_true', Bool.not_eq_false', Bool.or_eq_true, Bool.and_eq_true, Bool.or_eq_false_iff, Bool.and_eq_false_iff] at hc4
    refine W_seq (fun K5 hK5 => ?_)
    refine W_region hT hG [] [6] ?_
    rw [hnt]
    simp only [baseS, eq_self, implies_true, if_true, if_false, reduceIte, Nat.reduceBEq, Nat.reduceEqDiff, Nat.reduceLT, Nat.reduceAdd, reduceCtorEq, tyInt, tdInt, tyInts, tdInts, tyBoxes, tdBoxes, tyBox, tdBox, c_spec_l2Find]
    repeat (refine And.intro ?_ ?_; focus (first | exact ordP (by kernel_rfl) | with_reducible exact rfl | assumption | trivial | (simp only [inR]; omega) | omega | (intro hh; (try obtain ⟨hh1, hh2⟩ := hh); (repeat' apply And.intro) <;> first | assumption | (simp only [inR]; omega) | omega | (intros; (repeat' apply And.intro) <;> first | assumption | (simp only [inR]; omega) | omega)) | (intros; (repeat' apply And.intro) <;> first | assumption | (simp only [inR]; omega) | omega | (simp_all; done) | (simp_all [inR]; omega))))
    refine hK5 _ ?_
    clear hK5
    refine W_ret ?_
    simp only [thenQ, blockQ, loopQ, retQ, reduceIte, Nat.reduceEqDiff]
    refine ret0 ?_ rfl rfl (.inr rfl) rfl
    simp only [show Try.f92.results.toList = [ResultVar.tmp 6] from rfl, resAV, resL, look, Nat.reduceEqDiff, reduceIte, tyHull, tdHull, applyUps, noH, isStr, List.length_cons, List.length_nil, Nat.reduceAdd, and_self]
    all_goals (
      first | (rw [wAt, if_pos hc4]) | (rw [wAt, if_neg hc4]))
  · try simp only [decide_eq_true_eq, decide_eq_false_iff_not, ne_eq, Decidable.not_not, Bool.not_eq_true', Bool.not_eq_false', Bool.or_eq_true, Bool.and_eq_true, Bool.or_eq_false_iff, Bool.and_eq_false_iff] at hc4
    refine W_skip ?_
    simp only [thenQ, blockQ, loopQ, reduceIte, Nat.reduceEqDiff]
    refine hK2 _ ?_
    clear hK2
    refine W_seq (fun K6 hK6 => ?_)
    refine W_region hT hG [] [6] ?_
    rw [hnt]
    have hq := hlt (hin.resolve_left hc4)
    have hq2 := hin.resolve_left hc4
    simp only [baseS, eq_self, implies_true, if_true, if_false, reduceIte, Nat.reduceBEq, Nat.reduceEqDiff, Nat.reduceLT, Nat.reduceAdd, reduceCtorEq, tyInt, tdInt, tyInts, tdInts, tyBoxes, tdBoxes, tyBox, tdBox, c_spec_l2Find]
    repeat (refine And.intro ?_ ?_; focus (first | exact ordP (by kernel_rfl) | with_reducible exact rfl | assumption | trivial | (simp only [inR]; omega) | omega | (intro hh; (try obtain ⟨hh1, hh2⟩ := hh); (repeat' apply And.intro) <;> first | assumption | (simp only [inR]; omega) | omega | (intros; (repeat' apply And.intro) <;> first | assumption | (simp only [inR]; omega) | omega)) | (intros; (repeat' apply And.intro) <;> first | assumption | (simp only [inR]; omega) | omega | (simp_all; done) | (simp_all [inR]; omega))))
    refine hK6 _ ?_
    clear hK6
    refine W_ret ?_
    simp only [thenQ, blockQ, loopQ, retQ, reduceIte, Nat.reduceEqDiff]
    refine ret0 ?_ rfl rfl (.inr rfl) rfl
    simp only [show Try.f92.results.toList = [ResultVar.tmp 6] from rfl, resAV, resL, look, Nat.reduceEqDiff, reduceIte, tyHull, tdHull, applyUps, noH, isStr, List.length_cons, List.length_nil, Nat.reduceAdd, and_self]
    all_goals (
      first | (rw [wAt, if_pos hc4]) | (rw [wAt, if_neg hc4]))

end Go.Proofs.Ytpiaeckkjdcifaa
