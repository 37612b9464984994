/- Plain laws of the worst heel. No condition. -/
import Derived.Test.YtpiaeckkjdcifaaLoadLZ
import Derived.Test.YtpiaeckkjdcifaaLoadOk0
import Derived.Test.YtpiaeckkjdcifaaOrderZ
import Derived.Test.YtpiaeckkjdcifaaWorst
import Derived.Test.YtpiaeckkjdcifaaLoadA
namespace Go.Proofs.Ytpiaeckkjdcifaa
open Go
set_option linter.unusedVariables false
set_option linter.unusedSimpArgs false

theorem loadB_get {b r t : Int} {bs : List BoxD} {p o : List Int} (h : loadB b r t bs p o = true) : planB b r t bs p = true ∧ (o.length : Int) = (fullS p).length ∧ ∀ k, k < o.length → ordB t p o k = true := by
  simp only [loadB, Bool.and_eq_true, List.all_eq_true, List.mem_range, decide_eq_true_eq] at h
  exact ⟨h.1.1, h.1.2, h.2⟩
theorem part_all {b r t : Int} {bs : List BoxD} {p o : List Int} (h : loadB b r t bs p o = true) : partP p o o.length = p := by
  obtain ⟨h1, h2, h3⟩ := loadB_get h
  have hok := planB_ok h1
  have hnd : ∀ k, k ≤ o.length → (o.take k).Nodup := fun k => by
    induction k with
    | zero => intro _; simp
    | succ k ih =>
      intro hk
      have hg := (ord_get (h3 k (by omega))).2.1
      have e : o.take (k + 1) = o.take k ++ [o.getD k 0] := by
        rw [List.take_add_one, List.getElem?_eq_getElem (by omega), Option.toList_some, List.getD_eq_getElem?_getD, List.getElem?_eq_getElem (by omega)]; rfl
      rw [e, List.nodup_append]
      refine ⟨ih (by omega), by simp, fun x hx y hy => ?_⟩
      rw [List.mem_singleton] at hy
      intro exy
      rw [← hy, ← exy] at hg
      exact hg hx
  have hno : o.Nodup := by have := hnd o.length (Nat.le_refl _); rwa [List.take_length] at this
  have hin : ∀ x ∈ o, x ∈ fullS p := fun x hx => by
    obtain ⟨k, hk, e⟩ := mem_getD hx
    have hg := (ord_get (h3 k hk)).1
    rw [e] at hg
    exact full_mem.2 ⟨x.toNat, by omega, by omega, hg.2⟩
  have hall : ∀ x ∈ fullS p, x ∈ o := fun x hx => Classical.byContradiction fun hn => by
    have := pig (x :: o) (fullS p) (List.nodup_cons.2 ⟨hn, hno⟩) (fun y hy => by
      rcases List.mem_cons.1 hy with e | e
      · rw [e]; exact hx
      · exact hin y e)
    rw [List.length_cons] at this
    omega
  apply List.ext_getElem
  · rw [partP_len]
  · intro j hj1 hj2
    have e : ∀ (a : List Int) (h : j < a.length), a[j] = a.getD j 0 := fun a h => by rw [List.getD_eq_getElem?_getD, List.getElem?_eq_getElem h]; rfl
    rw [e _ hj1, e _ hj2, partP_get hj2, List.take_length]
    by_cases hz : p.getD j 0 = 0
    · rw [hz]; split <;> rfl
    · rw [if_pos (hall _ (full_mem.2 ⟨j, hj2, rfl, hz⟩))]
theorem empty_part {b r t : Int} {bs : List BoxD} {p o : List Int} (h : PlanOK b r t bs p) : emptyR b r t = partP p o 0 := by
  rw [part_zero, emptyR, if_pos h.ship]
  congr 1
  have := h.len; omega
theorem ld_all {b r t : Int} {bs : List BoxD} {p o : List Int} (h : loadB b r t bs p o = true) : ldR b r t bs p o = (p, true) := by
  obtain ⟨h1, h2, h3⟩ := loadB_get h
  have hok := planB_ok h1
  have key : ∀ n k : Nat, k + n = o.length → ldF b r t bs p (o.drop k) (partP p o k) = (p, true) := by
    intro n
    induction n with
    | zero =>
      intro k hk
      rw [List.drop_eq_nil_of_le (by omega), ldF, show k = o.length by omega, part_all h]
    | succ n ih =>
      intro k hk
      have hlt : k < o.length := by omega
      have hs := @ldF_step b r t bs p o (partP p o k) (k : Int) (by omega) (by omega)
      rw [Int.toNat_natCast, show ((k : Int) + 1).toNat = k + 1 by omega] at hs
      have hg := (ord_get (h3 k hlt)).1.1
      have hp := part_put hok h3 hlt
      rw [hs, if_neg (by omega), hp, if_pos rfl]
      exact ih (k + 1) (by omega)
  rw [ldR, empty_part hok (o := o)]
  exact key o.length 0 (by omega)

/-- The heel never goes beyond the worst one. -/
theorem whF_abs (r t : Int) (bs : List BoxD) (p o : List Int) : ∀ n, -(whF r t bs p o n).2 ≤ (whF r t bs p o n).1 ∧ (whF r t bs p o n).1 ≤ (whF r t bs p o n).2 ∧ 0 ≤ (whF r t bs p o n).2
  | 0 => by simp [whF]
  | n + 1 => by
    have ih := whF_abs r t bs p o n
    simp only [whF]
    omega
theorem whF_mono (r t : Int) (bs : List BoxD) (p o : List Int) : ∀ (n k : Nat), k ≤ n → (whF r t bs p o k).2 ≤ (whF r t bs p o n).2
  | 0, k, h => by
    have : k = 0 := by omega
    subst this; exact Int.le_refl _
  | n + 1, k, h => by
    by_cases e : k = n + 1
    · subst e; exact Int.le_refl _
    · have ih := whF_mono r t bs p o n k (by omega)
      simp only [whF]
      omega
theorem wAt_z (bs : List BoxD) : wAt bs 0 = 0 := by rw [wAt, if_pos rfl]
theorem sumTo_z : ∀ n : Nat, sumTo (fun _ => 0) n = 0
  | 0 => rfl
  | n + 1 => by rw [sumTo, sumTo_z n]; rfl
theorem heel_part {b r t : Int} {bs : List BoxD} {p o : List Int} (h3 : ∀ k, k < o.length → ordB t p o k = true) : ∀ k, k ≤ o.length → heelF r t bs (partP p o k) p.length = (whF r t bs p o k).1
  | 0, _ => by
    have : ∀ j, (fun j => wAt bs ((partP p o 0).getD j 0) * armH r t j) j = (fun _ => (0 : Int)) j := fun j => by
      have : (partP p o 0).getD j 0 = 0 := by
        rw [part_zero]
        by_cases hj : j < p.length
        · rw [List.getD_eq_getElem?_getD, List.getElem?_replicate, if_pos hj]; rfl
        · rw [List.getD_eq_getElem?_getD, List.getElem?_replicate, if_neg hj]; rfl
      dsimp only
      rw [this, wAt_z, Int.zero_mul]
    rw [heelF, funext this, sumTo_z]; rfl
  | k + 1, hk => by
    have ih := heel_part (b := b) (r := r) (bs := bs) h3 k (by omega)
    have hs := part_step (t := t) (by omega : k < o.length) (h3 k (by omega))
    have hg := (ord_get (h3 k (by omega))).1.1
    have hup := sumTo_upd (fun j => wAt bs ((partP p o k).getD j 0) * armH r t j) (fun j => wAt bs ((partP p o (k + 1)).getD j 0) * armH r t j) (o.getD k 0).toNat (fun j hj => by
      try dsimp only
      rw [hs.1, List.getD_eq_getElem?_getD, List.getElem?_set_ne (Ne.symm hj), ← List.getD_eq_getElem?_getD]) p.length (by omega)
    try dsimp only at hup
    have hv : (partP p o (k + 1)).getD (o.getD k 0).toNat 0 = p.getD (o.getD k 0).toNat 0 := by
      rw [hs.1, List.getD_eq_getElem?_getD, List.getElem?_set, if_pos rfl, if_pos (by rw [partP_len]; omega)]; rfl
    rw [hs.2, wAt_z, Int.zero_mul, hv] at hup
    rw [heelF] at ih ⊢
    rw [hup, ih, whF]
    have e : (((o.getD k 0).toNat : Nat) : Int) = o.getD k 0 := by omega
    simp only [armH, e]
    omega
theorem worst_nn {b r t : Int} {bs : List BoxD} {p o : List Int} (h : 0 ≤ worstR b r t bs p o) : loadB b r t bs p o = true := by
  cases hl : loadB b r t bs p o with
  | true => rfl
  | false => rw [worstR, hl] at h; simp at h
theorem worst_load {b r t : Int} {bs : List BoxD} {p o : List Int} (h : loadB b r t bs p o = true) : 0 ≤ worstR b r t bs p o := by
  rw [worstR, if_pos h]; exact (whF_abs r t bs p o o.length).2.2
theorem worst_neg {b r t : Int} {bs : List BoxD} {p o : List Int} (h : worstR b r t bs p o < 0) : worstR b r t bs p o = -1 := by
  cases hl : loadB b r t bs p o with
  | true => have := worst_load hl; omega
  | false => rw [worstR, hl]; rfl
/-- Behind any number of slots the plan is valid, and its heel at most the worst one. -/
theorem worst_part {b r t : Int} {bs : List BoxD} {p o : List Int} (h : loadB b r t bs p o = true) {k : Nat} (hk : k ≤ o.length) :
    ldR b r t bs p (o.take k) = (partP p o k, true) ∧ planB b r t bs (partP p o k) = true ∧ heelR b r t bs (partP p o k) ≤ worstR b r t bs p o ∧ -heelR b r t bs (partP p o k) ≤ worstR b r t bs p o := by
  obtain ⟨h1, h2, h3⟩ := loadB_get h
  have hok := planB_ok h1
  have hb := planB_of (part_ok hok h3 k hk)
  have key : ∀ n j : Nat, j + n = k → ldF b r t bs p ((o.take k).drop j) (partP p o j) = (partP p o k, true) := by
    intro n
    induction n with
    | zero =>
      intro j hj
      have e : j = k := by omega
      rw [List.drop_eq_nil_of_le (by rw [List.length_take]; omega), ldF, e]
    | succ n ih =>
      intro j hj
      have hlt : j < o.length := by omega
      have hlk : j < (o.take k).length := by rw [List.length_take]; omega
      have hs := @ldF_step b r t bs p (o.take k) (partP p o j) (j : Int) (by omega) (by omega)
      have eg : (o.take k).getD j 0 = o.getD j 0 := by
        rw [List.getD_eq_getElem?_getD, List.getElem?_take, if_pos (by omega), ← List.getD_eq_getElem?_getD]
      rw [Int.toNat_natCast, show ((j : Int) + 1).toNat = j + 1 by omega, eg] at hs
      have hg := (ord_get (h3 j hlt)).1.1
      have hp := part_put hok h3 hlt
      rw [hs, if_neg (by omega), hp, if_pos rfl]
      exact ih (j + 1) (by omega)
  have hh := heel_part (b := b) (r := r) (bs := bs) h3 k hk
  have ha := whF_abs r t bs p o k
  have hm := whF_mono r t bs p o o.length k hk
  refine ⟨by rw [ldR, empty_part hok (o := o.take k)]; rw [show partP p (o.take k) 0 = partP p o 0 by simp [partP]]; exact key k 0 (by omega), hb, ?_, ?_⟩
  · rw [heelR, if_pos hb, partP_len, hh, worstR, if_pos h]; omega
  · rw [heelR, if_pos hb, partP_len, hh, worstR, if_pos h]; omega
theorem sumTo_le2 (f : Nat → Int) (c : Int) : ∀ n : Nat, (∀ k, k < n → -c ≤ f k ∧ f k ≤ c) → -(c * n) ≤ sumTo f n ∧ sumTo f n ≤ c * n
  | 0, _ => by simp [sumTo]
  | n + 1, h => by
    have := sumTo_le2 f c n (fun k hk => h k (by omega))
    have := h n (by omega)
    simp only [sumTo, Int.natCast_add, Int.mul_add]
    omega
theorem heelR_le (b r t : Int) (bs : List BoxD) (p : List Int) : -2160 ≤ heelR b r t bs p ∧ heelR b r t bs p ≤ 2160 := by
  unfold heelR; split
  · rename_i h
    have hok := planB_ok h
    have hle := hok.le
    have := sumTo_le2 (fun k => wAt bs (p.getD k 0) * armH r t k) 60 p.length (fun k hk => by
      have := (arm_box hok (i := (k : Int)) (by omega) (by omega)).2.2.2.1
      simpa [armH] using this)
    rw [heelF]; omega
  · omega

end Go.Proofs.Ytpiaeckkjdcifaa
