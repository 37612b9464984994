/- Walks over drawn boxes and plans that are valid. No condition. -/
import Derived.Test.YtpiaeckkjdcifaaDrawP
import Derived.Test.YtpiaeckkjdcifaaPlanX
import Derived.Test.YtpiaeckkjdcifaaOkLoad
import Derived.Test.YtpiaeckkjdcifaaFind
namespace Go.Proofs.Ytpiaeckkjdcifaa
open Go
set_option linter.unusedVariables false
set_option linter.unusedSimpArgs false

theorem oddB_0 (b : List Int) (p : Int) : oddB b p 0 = false := by simp [oddB]
theorem bx_app {a : List BoxD} {x : BoxD} {j : Nat} : bx (a ++ [x]) j = if j < a.length then bx a j else if j = a.length then x else bx [] 0 := by
  by_cases h : j < a.length
  · rw [if_pos h]; simp [bx, List.getD_eq_getElem?_getD, List.getElem?_append_left h]
  · rw [if_neg h]
    by_cases e : j = a.length
    · rw [if_pos e]; subst e; simp [bx, List.getD_eq_getElem?_getD]
    · rw [if_neg e]
      have : a.length + 1 ≤ j := by omega
      simp [bx, List.getD_eq_getElem?_getD, List.getElem?_eq_none, this]
theorem run_step {a : List BoxD} {x : BoxD} (h : ∀ j, j < a.length → boxB (bx a j) = true ∧ (bx a j).id = (j : Int) + 1) (h1 : boxB x = true) (h2 : x.id = (a.length : Int) + 1) : ∀ j, j < (a ++ [x]).length → boxB (bx (a ++ [x]) j) = true ∧ (bx (a ++ [x]) j).id = (j : Int) + 1 := by
  intro j hj
  rw [List.length_append, List.length_cons, List.length_nil] at hj
  rw [bx_app]
  by_cases e : j < a.length
  · rw [if_pos e]; exact h j e
  · have e2 : j = a.length := by omega
    rw [if_neg e, if_pos e2, e2]; exact ⟨h1, h2⟩
theorem boxes_run {a : List BoxD} (h : ∀ j, j < a.length → boxB (bx a j) = true ∧ (bx a j).id = (j : Int) + 1) (hl : a.length ≤ 10) : boxesB a = true := by
  simp only [boxesB, Bool.and_eq_true, List.all_eq_true, List.mem_range, decide_eq_true_eq, bxOK]
  refine ⟨fun k hk => ⟨(h k hk).1, ?_⟩, by omega⟩
  refine Classical.byContradiction fun hn => ?_
  have h1 := (findF_take hk).2 (by omega)
  have hlt : 0 ≤ findF a (bx a k).id 0 := by
    have h3 : 0 ≤ findF (a.take k) (bx a k).id 0 := by omega
    have e : a = a.take k ++ a.drop k := (List.take_append_drop k a).symm
    have h4 : findF a (bx a k).id 0 = findF (a.take k ++ a.drop k) (bx a k).id 0 := by rw [← e]
    rw [h4, findF_app _ _ _ _ (by omega), if_pos h3]; exact h3
  have h5 := findF_id a _ 0 (by omega) hlt
  rw [Int.sub_zero] at h5
  have hlt2 := findF_lt hlt
  have h6 := (h (findF a (bx a k).id 0).toNat (by omega)).2
  have h7 := (h k hk).2
  omega

end Go.Proofs.Ytpiaeckkjdcifaa
namespace Go.Proofs.Ytpiaeckkjdcifaa
open Go
set_option linter.unusedVariables false
set_option linter.unusedSimpArgs false

theorem hull_ok {b : List Int} {p n : Int} (h : n = 0) : hv (hullV b p n).1 (hullV b p n).2.1 (hullV b p n).2.2.1 = true := by
  subst h
  rw [hullV_n (oddB_0 _ _)]
  have h4 := pick_box (b := b) (p := p) (n := 4) (by omega)
  have h3 := pick_box (b := b) (p := p + 1) (n := 3) (by omega)
  have h2 := pick_box (b := b) (p := p + 2) (n := 3) (by omega)
  simp only [hv, decide_eq_true_eq]
  omega
theorem empty_ok {b r t : Int} {bs : List BoxD} (h : hv b r t = true) (hb : boxesB bs = true) : planB b r t bs (emptyR b r t) = true := by
  have hbx := hv_box h
  have hz : ∀ k, (emptyR b r t).getD k 0 = 0 := fun k => by
    rw [emptyR, if_pos h, List.getD_eq_getElem?_getD, List.getElem?_replicate]; split <;> rfl
  exact planB_of { ship := h, boxes := hb, len := by rw [emptyR, if_pos h, List.length_replicate]; omega, inb := fun k => .inl (hz k), uniq := fun j k _ _ hk => absurd (hz k) hk, firm := fun k _ hk => absurd (hz k) hk }
theorem put_valid {b r t : Int} {bs : List BoxD} {p : List Int} {s n : Int} (h : planB b r t bs p = true) : planB b r t bs (putR b r t bs p s n).1 = true := by
  unfold putR
  rw [if_pos h]
  split
  · split
    · assumption
    · exact h
  · exact h

end Go.Proofs.Ytpiaeckkjdcifaa
namespace Go.Proofs.Ytpiaeckkjdcifaa
open Go
set_option linter.unusedVariables false
set_option linter.unusedSimpArgs false

theorem pig : ∀ (a o : List Int), a.Nodup → (∀ x ∈ a, x ∈ o) → a.length ≤ o.length
  | [], _, _, _ => Nat.zero_le _
  | x :: a, o, hn, hs => by
    have hx : x ∈ o := hs x (by simp)
    have hlen := List.length_erase_of_mem hx
    have hrec := pig a (o.erase x) (List.nodup_cons.1 hn).2 (fun y hy => (List.mem_erase_of_ne (show y ≠ x from fun e => (List.nodup_cons.1 hn).1 (by rw [← e]; exact hy))).2 (hs y (by simp [hy])))
    have hpos := List.length_pos_of_mem hx
    rw [List.length_cons]; omega
theorem full_mem {p : List Int} {x : Int} : x ∈ fullS p ↔ ∃ k : Nat, k < p.length ∧ (k : Int) = x ∧ p.getD k 0 ≠ 0 := by
  rw [fullS, selTo_mem]
  simp only [fullP, decide_eq_true_eq]
theorem order_down {b r t : Int} {bs : List BoxD} {p : List Int} (h : PlanOK b r t bs p) {o : List Int} (k : Nat) : (k : Int) ∈ fullS p → (k : Int) ∉ o → ∃ j : Nat, j < (fullS p).length ∧ (fullS p).getD j 0 ∉ o ∧ (0 ≤ belF b r t ((fullS p).getD j 0) → belF b r t ((fullS p).getD j 0) ∈ o) := by
  induction k using Nat.strongRecOn with
  | _ k ih =>
    intro h1 h2
    by_cases hb : 0 ≤ belF b r t k ∧ belF b r t k ∉ o
    · obtain ⟨q, hq, e, hz⟩ := full_mem.1 h1
      have e2 : q = k := by omega
      subst e2
      have hlen := h.len
      have hbel := belF_in (b := b) (r := r) (t := t) (s := (q : Int)) h.ship (by omega) (by omega)
      by_cases hm : 0 < (q : Int) % t
      · rw [if_pos hm] at hbel
        have hf := h.firm q hq hz hm
        have hq0 : q ≠ 0 := by intro e; subst e; simp at hm
        have e3 : ((q - 1 : Nat) : Int) = (q : Int) - 1 := by omega
        exact ih (q - 1) (by omega) (full_mem.2 ⟨q - 1, by omega, rfl, hf⟩) (by rw [e3, ← hbel]; exact hb.2)
      · rw [if_neg hm] at hbel; omega
    · obtain ⟨j, hj, e⟩ := mem_getD h1
      exact ⟨j, hj, by rw [e]; exact h2, by rw [e]; intro h3; exact Classical.byContradiction fun h4 => hb ⟨h3, h4⟩⟩
theorem order_free {b r t : Int} {bs : List BoxD} {p : List Int} (h : PlanOK b r t bs p) {o : List Int} (hl : o.length < (fullS p).length) : ∃ j : Nat, j < (fullS p).length ∧ (fullS p).getD j 0 ∉ o ∧ (0 ≤ belF b r t ((fullS p).getD j 0) → belF b r t ((fullS p).getD j 0) ∈ o) := by
  have hnd : (fullS p).Nodup := (selTo_asc (fullP p) p.length).imp (fun h => by omega)
  have hex : ∃ x, x ∈ fullS p ∧ x ∉ o := Classical.byContradiction fun hn => by
    have := pig (fullS p) o hnd (fun x hx => Classical.byContradiction fun hx2 => hn ⟨x, hx, hx2⟩)
    omega
  obtain ⟨x, hx, hx2⟩ := hex
  obtain ⟨k, hk, e, hz⟩ := full_mem.1 hx
  exact order_down h k (by rw [e]; exact hx) (by rw [e]; exact hx2)
theorem next_mod {a n : Int} (h0 : 0 ≤ a) (h1 : a < n) : (a + 1) % n = if a + 1 = n then 0 else a + 1 := by
  split
  · rename_i h; rw [h]; exact Int.emod_self
  · exact Int.emod_eq_of_lt (by omega) (by omega)
theorem full_le (p : List Int) : (fullS p).length ≤ p.length := selTo_len _ _

end Go.Proofs.Ytpiaeckkjdcifaa
