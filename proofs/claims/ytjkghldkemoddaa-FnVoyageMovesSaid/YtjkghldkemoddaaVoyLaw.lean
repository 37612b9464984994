/- Plain laws of voyages. No condition. -/
import Derived.Test.YtjkghldkemoddaaOverLaw
import Derived.Test.YtjkghldkemoddaaVoyage
import Derived.Test.YtjkghldkemoddaaOkText
namespace Go.Proofs.Ytjkghldkemoddaa
open Go
set_option linter.unusedVariables false
set_option linter.unusedSimpArgs false

/-- How often the boxes of a row are moved on a voyage. -/
def voyL (l : List Int) : Int := sumTo (fun port => mvL (port : Int) (l.filter fun x => decide ((port : Int) ≤ x))) 7
def chkL (l : List Int) : Bool := decide ((l.length : Int) + ovL l ≤ voyL l) && (decide (0 < ovL l) || decide (voyL l = l.length))
def ports7 : List Int := [0, 1, 2, 3, 4, 5, 6]
theorem chk_0 : chkL [] = true := by kernel_rfl
theorem chk_1 : (ports7.all fun a => chkL [a]) = true := by kernel_rfl
theorem chk_2 : (ports7.all fun a => ports7.all fun c => chkL [a, c]) = true := by kernel_rfl
theorem chk_3 : (ports7.all fun a => ports7.all fun c => ports7.all fun d => chkL [a, c, d]) = true := by kernel_rfl
theorem ports7_mem {a : Int} (h : 0 ≤ a ∧ a ≤ 6) : a ∈ ports7 := by
  simp only [ports7, List.mem_cons, List.not_mem_nil, or_false]; omega
theorem chk_all (l : List Int) (hl : l.length ≤ 3) (h : ∀ x ∈ l, 0 ≤ x ∧ x ≤ 6) : (l.length : Int) + ovL l ≤ voyL l ∧ (ovL l = 0 → voyL l = l.length) := by
  have hc : chkL l = true := by
    match l, hl, h with
    | [], _, _ => exact chk_0
    | [a], _, h => exact List.all_eq_true.1 chk_1 a (ports7_mem (h a (by simp)))
    | [a, c], _, h => exact List.all_eq_true.1 (List.all_eq_true.1 chk_2 a (ports7_mem (h a (by simp)))) c (ports7_mem (h c (by simp)))
    | [a, c, d], _, h => exact List.all_eq_true.1 (List.all_eq_true.1 (List.all_eq_true.1 chk_3 a (ports7_mem (h a (by simp)))) c (ports7_mem (h c (by simp)))) d (ports7_mem (h d (by simp)))
  rw [chkL, Bool.and_eq_true, Bool.or_eq_true, decide_eq_true_eq, decide_eq_true_eq, decide_eq_true_eq] at hc
  exact ⟨hc.1, fun h0 => hc.2.resolve_left (by omega)⟩
theorem sumTo_const (n : Nat) : sumTo (fun _ => 1) n = n := by
  induction n with
  | zero => rfl
  | succ n ih => rw [sumTo, ih]; omega
theorem count_rows {b r : Int} {T : Nat} {bs : List BoxD} {p : List Int} (h : PlanOK b r T bs p) : ∀ Q, Q * T ≤ p.length → sumTo (fun k => if fullP p k = true then 1 else 0) (Q * T) = sumTo (fun q => ((((rowL p (q * T) T).map (pAt bs)).length : Nat) : Int)) Q := by
  intro Q hQ
  rw [sumTo_rows]
  refine sumTo_congr fun q hq => ?_
  have hl : q * T + T ≤ p.length := by
    have := Nat.mul_le_mul_right T hq
    rw [Nat.succ_mul] at this; omega
  rw [row_sum h hl (fun k => if fullP p k = true then 1 else 0) (fun _ _ => 1) (fun i hi h0 => by
    (try dsimp only); rw [fullP, decide_eq_false (fun hn => hn h0)]; rfl) (fun i hi => by
    (try dsimp only); rw [fullP, decide_eq_true (row_ne h hl hi)]; rfl), sumTo_const]
theorem ports_le {b r : Int} {T : Nat} {bs : List BoxD} {p : List Int} (h : PlanOK b r T bs p) (q : Nat) : ∀ x ∈ (rowL p (q * T) T).map (pAt bs), 0 ≤ x ∧ x ≤ 6 := by
  intro x hx
  obtain ⟨n, hn, e⟩ := List.mem_map.1 hx
  obtain ⟨i, hi, e2, h0⟩ := rowL_mem.1 hn
  rw [← e, ← e2]
  rw [← e2] at h0
  exact pAt_le h.boxes ((h.inb _).resolve_left h0)
theorem voy_inv {b r : Int} {T : Nat} {bs : List BoxD} {p : List Int} (h : PlanOK b r T bs p) {Q : Nat} (hQ : Q * T = p.length) : ∀ n, n ≤ 7 →
    PlanOK b r T bs (voyF b r T bs p n).1 ∧ (voyF b r T bs p n).1.length = p.length ∧
    (∀ q, q < Q → (rowL (voyF b r T bs p n).1 (q * T) T).map (pAt bs) = ((rowL p (q * T) T).map (pAt bs)).filter fun x => decide ((n : Int) ≤ x)) ∧
    (voyF b r T bs p n).2 = sumTo (fun port => sumTo (fun q => mvL (port : Int) (((rowL p (q * T) T).map (pAt bs)).filter fun x => decide ((port : Int) ≤ x))) Q) n
  | 0, _ => by
    refine ⟨h, rfl, fun q hq => ?_, rfl⟩
    show (rowL p (q * T) T).map (pAt bs) = _
    symm
    rw [List.filter_eq_self]
    intro x hx
    have := ports_le h q x hx
    exact decide_eq_true (by omega)
  | n + 1, hn => by
    obtain ⟨h1, h2, h3, h4⟩ := voy_inv h hQ n (by omega)
    have hb := planB_of h1
    have e : aftR b r T bs (voyF b r T bs p n).1 (n : Int) = (apTo T bs (n : Int) (voyF b r T bs p n).1 (voyF b r T bs p n).1.length).1 := by rw [aftR, if_pos ⟨hb, by omega⟩]
    have hl : ∀ q, q < Q → q * T + T ≤ (voyF b r T bs p n).1.length := fun q hq => by
      have := Nat.mul_le_mul_right T hq
      rw [Nat.succ_mul] at this; omega
    rw [voyF]
    (try dsimp only)
    rw [e]
    refine ⟨aft_ok h1 _, by rw [aft_len, h2], fun q hq => ?_, ?_⟩
    · rw [rowL_keep h1 _ (hl q hq)]
      have e2 : ((rowL (voyF b r T bs p n).1 (q * T) T).filter fun x => decide (pAt bs x ≠ (n : Int))).map (pAt bs) = ((rowL (voyF b r T bs p n).1 (q * T) T).map (pAt bs)).filter fun x => decide (x ≠ (n : Int)) := by
        rw [List.filter_map]; rfl
      rw [e2, h3 q hq, List.filter_filter]
      apply List.filter_congr
      intro x _
      rw [Bool.eq_iff_iff, Bool.and_eq_true, decide_eq_true_eq, decide_eq_true_eq, decide_eq_true_eq]
      omega
    · rw [sumTo, ← h4]
      congr 1
      rw [offR, if_pos ⟨hb, by omega⟩, selTo_count, ← hQ.trans h2.symm, off_rows h1 (n : Int) Q (by rw [h2]; omega)]
      exact sumTo_congr fun q hq => by rw [h3 q hq]
/-- A voyage without overstowage needs one move for each box. -/
theorem voy_law {b r t : Int} {bs : List BoxD} {p : List Int} (h : planB b r t bs p = true) :
    ((idsR b r t bs p).length : Int) + overR b r t bs p ≤ voyR b r t bs p ∧ (overR b r t bs p = 0 → voyR b r t bs p = (idsR b r t bs p).length) ∧ 0 ≤ overR b r t bs p := by
  have hok := planB_ok h
  obtain ⟨h1, h2, h3⟩ := plan_rows hok
  have ho := over_all h
  have hok2 := hok
  rw [← h1] at hok2
  obtain ⟨_, _, _, hv⟩ := voy_inv hok2 h3 7 (Nat.le_refl _)
  rw [sumTo_swap] at hv
  have hc := count_rows hok2 (b * r).toNat (by omega)
  rw [h3] at hc
  have hids : ((idsR b r t bs p).length : Int) = sumTo (fun q => ((((rowL p (q * t.toNat) t.toNat).map (pAt bs)).length : Nat) : Int)) (b * r).toNat := by
    rw [idsR, if_pos h, idsTo_len, selTo_count, hc]
  have hvr : voyR b r t bs p = sumTo (fun q => voyL ((rowL p (q * t.toNat) t.toNat).map (pAt bs))) (b * r).toNat := by
    rw [voyR, if_pos h, ← h1, hv, h1]; rfl
  have ht := hv_t hok.ship
  have hlen : ∀ q, ((rowL p (q * t.toNat) t.toNat).map (pAt bs)).length ≤ 3 := fun q => by
    have := rowL_len p (q * t.toNat) t.toNat
    rw [List.length_map]; omega
  have hk := fun q => chk_all _ (hlen q) (ports_le hok2 q)
  rw [hids, ho, hvr, ← sumTo_add]
  refine ⟨sumTo_mono fun q _ => (hk q).1, fun h0 => ?_, ?_⟩
  · have hz : ∀ q, q < (b * r).toNat → ovL ((rowL p (q * t.toNat) t.toNat).map (pAt bs)) = 0 := by
      have : ∀ n, sumTo (fun q => ovL ((rowL p (q * t.toNat) t.toNat).map (pAt bs))) n = 0 → ∀ q, q < n → ovL ((rowL p (q * t.toNat) t.toNat).map (pAt bs)) = 0 := by
        intro n
        induction n with
        | zero => intro _ q hq; omega
        | succ n ih =>
          intro hs q hq
          have h5 := ovL_pos ((rowL p (n * t.toNat) t.toNat).map (pAt bs))
          have h6 : 0 ≤ sumTo (fun q => ovL ((rowL p (q * t.toNat) t.toNat).map (pAt bs))) n := by
            have := sumTo_mono (f := fun _ => 0) (g := fun q => ovL ((rowL p (q * t.toNat) t.toNat).map (pAt bs))) (n := n) (fun q _ => ovL_pos _)
            rw [sumTo_none _ _ (fun _ _ => rfl)] at this; exact this
          rw [sumTo] at hs
          by_cases e : q = n
          · subst e; omega
          · exact ih (by omega) q (by omega)
      exact this _ h0
    exact sumTo_congr fun q hq => (hk q).2 (hz q hq)
  · have := sumTo_mono (f := fun _ => 0) (g := fun q => ovL ((rowL p (q * t.toNat) t.toNat).map (pAt bs))) (n := (b * r).toNat) (fun q _ => ovL_pos _)
    rw [sumTo_none _ _ (fun _ _ => rfl)] at this; exact this

end Go.Proofs.Ytjkghldkemoddaa
