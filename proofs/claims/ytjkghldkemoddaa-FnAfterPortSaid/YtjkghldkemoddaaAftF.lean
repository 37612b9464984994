/- Where the boxes are behind a port. No condition. -/
import Derived.Test.YtjkghldkemoddaaRowL
import Derived.Test.YtjkghldkemoddaaPortF
import Derived.Test.YtjkghldkemoddaaPlaceO
namespace Go.Proofs.Ytjkghldkemoddaa
open Go
set_option linter.unusedVariables false
set_option linter.unusedSimpArgs false

theorem aft_le2 (b r t : Int) (bs : List BoxD) (p : List Int) (port : Int) : (aftR b r t bs p port).length ≤ p.length := by
  unfold aftR; split
  · rw [aft_len]; exact Nat.le_refl _
  · simp
theorem aft_some {b r t : Int} {bs : List BoxD} {p : List Int} {port : Int} (h : ¬ ((aftR b r t bs p port).length : Int) = 0) : planB b r t bs p = true ∧ (0 ≤ port ∧ port ≤ 6) := by
  refine Classical.byContradiction fun hn => h ?_
  rw [aftR, if_neg hn]; rfl
theorem aft_eq {b r t : Int} {bs : List BoxD} {p : List Int} {port : Int} (h : planB b r t bs p = true ∧ (0 ≤ port ∧ port ≤ 6)) : aftR b r t bs p port = (apTo t bs port p p.length).1 := by
  rw [aftR, if_pos h]
theorem aft_planB {b r t : Int} {bs : List BoxD} {p : List Int} {port : Int} (h : planB b r t bs p = true ∧ (0 ≤ port ∧ port ≤ 6)) : planB b r t bs (aftR b r t bs p port) = true := by
  rw [aft_eq h]; exact planB_of (aft_ok (planB_ok h.1) port)
theorem aft_keep {b r t : Int} {bs : List BoxD} {p : List Int} {port : Int} (h : PlanOK b r t bs p) {j : Nat} (hj : j < p.length) (h0 : (apTo t bs port p p.length).1.getD j 0 ≠ 0) : pAt bs ((apTo t bs port p p.length).1.getD j 0) ≠ port := by
  rw [aft_get h hj, fullP2] at h0 ⊢
  have hlt : j % t.toNat < (keepP bs port p (j - j % t.toNat) t.toNat).length := by
    refine Classical.byContradiction fun hn => h0 ?_
    rw [getD_out (by omega)]
  exact (keepP_mem.1 (getD_mem hlt)).choose_spec.2.2.2
theorem aft_none {b r t : Int} {bs : List BoxD} {p : List Int} {port : Int} (h : planB b r t bs p = true ∧ (0 ≤ port ∧ port ≤ 6)) : offR b r t bs (aftR b r t bs p port) port = [] := by
  have hl := aft_len t bs port p
  rw [offR, if_pos ⟨aft_planB h, h.2⟩, aft_eq h]
  refine List.eq_nil_iff_forall_not_mem.2 fun x hx => ?_
  obtain ⟨k, hk, _, hb⟩ := selTo_mem.1 hx
  rw [offB, Bool.and_eq_true, decide_eq_true_eq, List.any_eq_true] at hb
  obtain ⟨_, q, hq, hlow⟩ := hb
  simp only [lowB, Bool.and_eq_true, decide_eq_true_eq] at hlow
  have hq2 := List.mem_range.1 hq
  exact aft_keep (planB_ok h.1) (by omega) hlow.1.2 hlow.2
theorem aft_find {b r t : Int} {bs : List BoxD} {p : List Int} {port : Int} (h : planB b r t bs p = true ∧ (0 ≤ port ∧ port ≤ 6)) {k : Nat} (hk : k < p.length) (h0 : p.getD k 0 ≠ 0) :
    (pAt bs (p.getD k 0) = port → findP b r t bs (aftR b r t bs p port) (p.getD k 0) < 0) ∧ (pAt bs (p.getD k 0) ≠ port → 0 ≤ findP b r t bs (aftR b r t bs p port) (p.getD k 0) ∧ findP b r t bs (aftR b r t bs p port) (p.getD k 0) < p.length ∧ findP b r t bs (aftR b r t bs p port) (p.getD k 0) / t = (k : Int) / t) := by
  have hok := planB_ok h.1
  obtain ⟨hT, hT1, hrows⟩ := plan_rows hok
  have hok2 := aft_ok hok port
  have hl := aft_len t bs port p
  rw [aft_eq h]
  constructor
  · intro hq
    refine Classical.byContradiction fun hn => ?_
    obtain ⟨g1, g2, g3, g4⟩ := findP_get (Int.not_lt.1 hn)
    have := aft_keep hok (port := port) (j := (findP b r t bs (apTo t bs port p p.length).1 (p.getD k 0)).toNat) (by omega) (by rw [g4]; exact h0)
    rw [g4] at this
    exact this hq
  · intro hq
    have hdm := Nat.div_add_mod k t.toNat
    have hs : k - k % t.toNat = k / t.toNat * t.toNat := by rw [Nat.mul_comm]; omega
    have hmlt := Nat.mod_lt k hT1
    have hm : p.getD k 0 ∈ keepP bs port p (k - k % t.toNat) t.toNat := keepP_mem.2 ⟨k % t.toNat, hmlt, by rw [show k - k % t.toNat + k % t.toNat = k by omega], h0, hq⟩
    obtain ⟨m, hm1, hm2⟩ := mem_getD hm
    have hlen := keepP_len bs port p (k - k % t.toNat) t.toNat
    have hq2 : k / t.toNat < (b * r).toNat := by
      rw [Nat.div_lt_iff_lt_mul (by omega)]; omega
    have hq3 : (k / t.toNat + 1) * t.toNat ≤ (b * r).toNat * t.toNat := Nat.mul_le_mul_right _ hq2
    rw [Nat.succ_mul] at hq3
    have hb : k - k % t.toNat + m < p.length := by omega
    have hmod : (k - k % t.toNat + m) % t.toNat = m := by rw [hs]; exact mod_row (by omega)
    have hg : (apTo t bs port p p.length).1.getD (k - k % t.toNat + m) 0 = p.getD k 0 := by
      rw [aft_get hok hb, fullP2, hmod, show k - k % t.toNat + m - m = k - k % t.toNat by omega]; exact hm2
    have hat := hok2.at (s := k - k % t.toNat + m) (by omega) (by rw [hg]; exact h0)
    rw [hg] at hat
    rw [hat]
    refine ⟨by omega, by omega, ?_⟩
    have hd : (k - k % t.toNat + m) / t.toNat = k / t.toNat := by
      rw [hs, Nat.add_comm, Nat.add_mul_div_right _ _ (by omega), Nat.div_eq_of_lt (by omega), Nat.zero_add]
    have e1 : ((k - k % t.toNat + m : Nat) : Int) / t = (((k - k % t.toNat + m) / t.toNat : Nat) : Int) := by
      rw [Int.natCast_ediv, hT]
    have e2 : ((k : Nat) : Int) / t = ((k / t.toNat : Nat) : Int) := by
      rw [Int.natCast_ediv, hT]
    rw [e1, e2, hd]
theorem aft_law {b r t : Int} {bs : List BoxD} {p : List Int} {port : Int} (h : planB b r t bs p = true ∧ (0 ≤ port ∧ port ≤ 6)) {i : Int} (hi : 0 ≤ i ∧ i < p.length) (h0 : ¬ p.getD i.toNat 0 = 0) :
    decide (findP b r t bs (aftR b r t bs p port) (p.getD i.toNat 0) < 0) = decide (portF bs (p.getD i.toNat 0) = port) ∧ (0 ≤ findP b r t bs (aftR b r t bs p port) (p.getD i.toNat 0) → plB b r t i = plB b r t (findP b r t bs (aftR b r t bs p port) (p.getD i.toNat 0)) ∧ plR b r t i = plR b r t (findP b r t bs (aftR b r t bs p port) (p.getD i.toNat 0))) := by
  obtain ⟨k, rfl⟩ : ∃ k : Nat, i = k := ⟨i.toNat, by omega⟩
  rw [Int.toNat_natCast] at h0 ⊢
  have hok := planB_ok h.1
  have hf := aft_find h (k := k) (by omega) h0
  have hp := (port_of hok h0).1
  have hln := hok.len
  constructor
  · rw [hp]
    refine decide_eq_decide.2 ⟨fun hn => ?_, hf.1⟩
    refine Classical.byContradiction fun hne => ?_
    have := (hf.2 hne).1
    omega
  · intro h2
    have hne : pAt bs (p.getD k 0) ≠ port := fun e => by have := hf.1 e; omega
    obtain ⟨g1, g2, g3⟩ := hf.2 hne
    have y1 := pl3_yes (b := b) (r := r) (t := t) (s := (k : Int)) ⟨hok.ship, by omega⟩
    have y2 := pl3_yes (b := b) (r := r) (t := t) (s := findP b r t bs (aftR b r t bs p port) (p.getD k 0)) ⟨hok.ship, by omega⟩
    rw [y1.1, y1.2.1, y2.1, y2.2.1, g3]
    exact ⟨rfl, rfl⟩

end Go.Proofs.Ytjkghldkemoddaa
