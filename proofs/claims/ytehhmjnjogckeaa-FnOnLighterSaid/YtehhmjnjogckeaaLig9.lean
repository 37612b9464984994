/- Plain laws of lighter boxes. No condition. -/
import Derived.Test.YtehhmjnjogckeaaPlanX
import Derived.Test.YtehhmjnjogckeaaMisc
namespace Go.Proofs.Ytehhmjnjogckeaa
open Go
set_option linter.unusedVariables false
set_option linter.unusedSimpArgs false

/-- The same boxes with one weight. -/
def same9 (bs : List BoxD) : List BoxD := bs.map fun x => ⟨x.id, 9, x.cls, x.port, x.cold⟩
theorem same9_step {bs : List BoxD} {i : Int} (h0 : 0 ≤ i) (h : i < bs.length) : same9 (bs.take (i + 1).toNat) = same9 (bs.take i.toNat) ++ [⟨(bx bs i.toNat).id, 9, (bx bs i.toNat).cls, (bx bs i.toNat).port, (bx bs i.toNat).cold⟩] := by
  have ha : i.toNat < bs.length := by omega
  have e : (i + 1).toNat = i.toNat + 1 := by omega
  have e2 : bx bs i.toNat = bs[i.toNat] := by rw [bx, List.getD_eq_getElem?_getD, List.getElem?_eq_getElem ha]; rfl
  rw [e, List.take_add_one, List.getElem?_eq_getElem ha, Option.toList_some, same9, List.map_append, e2]; rfl
theorem same9_w {bs : List BoxD} {k : Nat} (h : k < (same9 bs).length) : (bx (same9 bs) k).weight = 9 := by
  rw [bx, List.getD_eq_getElem?_getD, List.getElem?_eq_getElem h]
  simp [same9]
theorem lig_same (b r t : Int) (bs : List BoxD) (p : List Int) : ligR b r t (same9 bs) p = [] := by
  unfold ligR
  split
  · rename_i h
    have hok := planB_ok h
    refine selTo_nil fun k hk => ?_
    have hw : ∀ j, p.getD j 0 ≠ 0 → wAt (same9 bs) (p.getD j 0) = 9 := fun j hj => by
      have h1 := (hok.inb j).resolve_left hj
      have h2 := findF_lt h1
      rw [wAt, if_neg hj]; exact same9_w (by omega)
    by_cases h0 : p.getD k 0 = 0
    · have h1 := wAt_le hok.boxes (hok.inb (k - 1))
      have h2 : wAt (same9 bs) (p.getD k 0) = 0 := by rw [wAt, if_pos h0]
      rw [ligB, h2, decide_eq_false (by omega : ¬ wAt (same9 bs) (p.getD (k - 1) 0) < 0), Bool.and_false]
    · by_cases hm : 0 < (k : Int) % t
      · have h1 := hok.firm k hk h0 hm
        rw [ligB, hw k h0, hw (k - 1) h1]; simp
      · rw [ligB, decide_eq_false hm, Bool.false_and]
  · rfl
theorem lig_below {b r t : Int} {bs : List BoxD} {p : List Int} (h : planB b r t bs p = true) {x : Int} (hx : x ∈ ligR b r t bs p) : 0 ≤ belF b r t x := by
  have hok := planB_ok h
  have hl := hok.len
  rw [ligR, if_pos h] at hx
  obtain ⟨k, hk, rfl, h1⟩ := selTo_mem.1 hx
  rw [ligB, Bool.and_eq_true, decide_eq_true_eq] at h1
  have hk0 : k ≠ 0 := by intro e; subst e; simp at h1
  rw [belF_in hok.ship (by omega) (by omega), if_pos h1.1]; omega

end Go.Proofs.Ytehhmjnjogckeaa
