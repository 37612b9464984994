/- Plain laws of overstowage. No condition. -/
import Derived.Test.YtjkghldkemoddaaRowL
namespace Go.Proofs.Ytjkghldkemoddaa
open Go
set_option linter.unusedVariables false
set_option linter.unusedSimpArgs false

theorem ovL_1 (a : Int) : ovL [a] = 0 := by simp [ovL, sumTo]
theorem ovL_2 (a c : Int) : ovL [a, c] = if a < c then 1 else 0 := by simp [ovL, sumTo, List.range_succ]
theorem ovL_3 (a c d : Int) : ovL [a, c, d] = (if a < c then 1 else 0) + (if a < d ∨ c < d then 1 else 0) := by
  have e : ovL [a, c, d] = ((0 + (if false = true then 1 else 0)) + (if (decide (a < c) || false) = true then 1 else 0)) + (if (decide (a < d) || (decide (c < d) || false)) = true then 1 else 0) := rfl
  rw [e]; simp only [Bool.or_false, Bool.or_eq_true, decide_eq_true_eq, Bool.false_eq_true, if_false, Int.zero_add]
theorem ovL_filter (m : Int) (l : List Int) (h : l.length ≤ 3) : ovL (l.filter fun x => decide (x ≠ m)) ≤ ovL l := by
  match l, h with
  | [], _ => exact Int.le_refl _
  | [a], _ => by_cases h1 : a = m <;> simp [h1, ovL_1, ovL, sumTo]
  | [a, c], _ =>
    by_cases h1 : a = m <;> by_cases h2 : c = m <;> simp only [List.filter, h1, h2, ne_eq, not_true_eq_false, not_false_eq_true, decide_true, decide_false, ovL_1, ovL_2] <;> (try simp only [ovL, sumTo, List.length_nil]) <;> (repeat' split) <;> omega
  | [a, c, d], _ =>
    by_cases h1 : a = m <;> by_cases h2 : c = m <;> by_cases h3 : d = m <;> simp only [List.filter, h1, h2, h3, ne_eq, not_true_eq_false, not_false_eq_true, decide_true, decide_false, ovL_1, ovL_2, ovL_3] <;> (try simp only [ovL, sumTo, List.length_nil]) <;> (repeat' split) <;> omega
theorem ovL_pos (l : List Int) : 0 ≤ ovL l := by
  have h := sumTo_mono (f := fun _ => 0) (g := fun k => if (List.range k).any (fun j => decide (l.getD j 0 < l.getD k 0)) = true then 1 else 0) (n := l.length) (fun k _ => by (try dsimp only); split <;> omega)
  rw [sumTo_none _ _ (fun _ _ => rfl)] at h
  exact h
theorem over_all {b r t : Int} {bs : List BoxD} {p : List Int} (h : planB b r t bs p = true) : overR b r t bs p = sumTo (fun q => ovL ((rowL p (q * t.toNat) t.toNat).map (pAt bs))) (b * r).toNat := by
  have hok := planB_ok h
  obtain ⟨h1, h2, h3⟩ := plan_rows hok
  rw [overR, if_pos h, ← h3]
  rw [← h1] at hok
  have := over_rows hok (b * r).toNat (by omega)
  rw [h1] at this; exact this
theorem over_after {b r t : Int} {bs : List BoxD} {p : List Int} {port : Int} (h : planB b r t bs p = true) (hp : 0 ≤ port ∧ port ≤ 6) :
    0 ≤ overR b r t bs (aftR b r t bs p port) ∧ overR b r t bs (aftR b r t bs p port) ≤ overR b r t bs p := by
  have hok := planB_ok h
  obtain ⟨h1, h2, h3⟩ := plan_rows hok
  have e : aftR b r t bs p port = (apTo t bs port p p.length).1 := by rw [aftR, if_pos ⟨h, hp⟩]
  have hb := planB_of (aft_ok hok port)
  rw [e, over_all hb, over_all h]
  constructor
  · have h4 := sumTo_mono (f := fun _ => 0) (g := fun q => ovL ((rowL (apTo t bs port p p.length).1 (q * t.toNat) t.toNat).map (pAt bs))) (n := (b * r).toNat) (fun q _ => ovL_pos _)
    rw [sumTo_none _ _ (fun _ _ => rfl)] at h4
    exact h4
  · refine sumTo_mono fun q hq => ?_
    have hl : q * t.toNat + t.toNat ≤ p.length := by
      have := Nat.mul_le_mul_right t.toNat hq
      rw [Nat.succ_mul] at this; omega
    have hok2 := hok
    rw [← h1] at hok2
    have hk := rowL_keep hok2 port (q := q) hl
    rw [h1] at hk
    rw [hk]
    have e2 : ((rowL p (q * t.toNat) t.toNat).filter fun x => decide (pAt bs x ≠ port)).map (pAt bs) = ((rowL p (q * t.toNat) t.toNat).map (pAt bs)).filter fun x => decide (x ≠ port) := by
      rw [List.filter_map]; rfl
    rw [e2]
    refine ovL_filter port _ ?_
    have := rowL_len p (q * t.toNat) t.toNat
    have ht := hv_t hok.ship
    rw [List.length_map]; omega
/-- Boxes changed in what does not name them. -/
theorem findF_map (f : BoxD → BoxD) (hf : ∀ x, (f x).id = x.id) : ∀ (bs : List BoxD) (n k : Int), findF (bs.map f) n k = findF bs n k
  | [], _, _ => rfl
  | x :: xs, n, k => by simp only [List.map_cons, findF, hf, findF_map f hf xs n (k + 1)]
theorem bx_map {f : BoxD → BoxD} {bs : List BoxD} {k : Nat} (h : k < bs.length) : bx (bs.map f) k = f (bx bs k) := by
  simp [bx, List.getD_eq_getElem?_getD, List.getElem?_map, List.getElem?_eq_getElem h]
theorem boxesB_map {f : BoxD → BoxD} (hf : ∀ x, (f x).id = x.id) (hb : ∀ x, boxB x = true → boxB (f x) = true) {bs : List BoxD} (h : boxesB bs = true) : boxesB (bs.map f) = true := by
  simp only [boxesB, Bool.and_eq_true, List.all_eq_true, List.mem_range, decide_eq_true_eq, List.length_map] at h ⊢
  refine ⟨fun k hk => ?_, h.2⟩
  have := h.1 k hk
  simp only [bxOK, Bool.and_eq_true, decide_eq_true_eq] at this ⊢
  rw [bx_map hk, hf, ← List.map_take, findF_map f hf]
  exact ⟨hb _ this.1, this.2⟩
theorem planB_map {f : BoxD → BoxD} (hf : ∀ x, (f x).id = x.id) (hb : ∀ x, boxB x = true → boxB (f x) = true) {b r t : Int} {bs : List BoxD} {p : List Int} (h : planB b r t bs p = true) : planB b r t (bs.map f) p = true := by
  have hok := planB_ok h
  exact planB_of { ship := hok.ship, boxes := boxesB_map hf hb hok.boxes, len := hok.len, inb := fun k => (hok.inb k).imp id (fun h => by rw [findF_map f hf]; exact h), uniq := hok.uniq, firm := hok.firm }
def same2 (bs : List BoxD) : List BoxD := bs.map fun x => ⟨x.id, x.weight, x.cls, 2, x.cold⟩
theorem same2_step {bs : List BoxD} {i : Int} (h0 : 0 ≤ i) (h : i < bs.length) : same2 (bs.take (i + 1).toNat) = same2 (bs.take i.toNat) ++ [⟨(bx bs i.toNat).id, (bx bs i.toNat).weight, (bx bs i.toNat).cls, 2, (bx bs i.toNat).cold⟩] := by
  have ha : i.toNat < bs.length := by omega
  have e : (i + 1).toNat = i.toNat + 1 := by omega
  have e2 : bx bs i.toNat = bs[i.toNat] := by rw [bx, List.getD_eq_getElem?_getD, List.getElem?_eq_getElem ha]; rfl
  rw [e, List.take_add_one, List.getElem?_eq_getElem ha, Option.toList_some, same2, List.map_append, e2]; rfl
theorem over_same {b r t : Int} {bs : List BoxD} {p : List Int} (h : planB b r t bs p = true) : overR b r t (same2 bs) p = 0 := by
  have hs : planB b r t (same2 bs) p = true := planB_map (f := fun x => ⟨x.id, x.weight, x.cls, 2, x.cold⟩) (fun _ => rfl) (fun x hx => by
    simp only [boxB, boxV, Bool.and_eq_true, decide_eq_true_eq] at hx ⊢
    exact ⟨⟨⟨hx.1.1.1, hx.1.1.2⟩, hx.1.2⟩, by omega⟩) h
  have hok := planB_ok hs
  have hp : ∀ k, p.getD k 0 ≠ 0 → pAt (same2 bs) (p.getD k 0) = 2 := fun k hk => by
    have h1 := findF_lt ((hok.inb k).resolve_left hk)
    have h2 := (hok.inb k).resolve_left hk
    have h3 : (findF (same2 bs) (p.getD k 0) 0).toNat < bs.length := by simp only [same2, List.length_map] at h1 h2 ⊢; omega
    rw [pAt, same2, bx_map (by simpa [same2] using h3)]
  rw [overR, if_pos hs, overF]
  refine sumTo_none _ _ fun k hk => ?_
  rw [if_neg]
  intro ho
  rw [overB, Bool.and_eq_true, decide_eq_true_eq, List.any_eq_true] at ho
  obtain ⟨hk0, j, _, hj⟩ := ho
  simp only [lowB, Bool.and_eq_true, decide_eq_true_eq] at hj
  rw [hp k hk0, hp j hj.1.2] at hj
  omega

end Go.Proofs.Ytjkghldkemoddaa
