/- Walks over drawn pairs of slots. No condition. -/
import Derived.Test.YtckkpfojapcmmaaDrawH
namespace Go.Proofs.Ytckkpfojapcmmaa
open Go
set_option linter.unusedVariables false
set_option linter.unusedSimpArgs false

def drN (b : List Int) : Int := max (many (hullV b 0 9).1 (hullV b 0 9).2.1 (hullV b 0 9).2.2.1) 1
def drP (b : List Int) : Int := (hullV b 0 9).2.2.2
def drOne (b : List Int) : Int := pickV b (drP b) (drN b) - pickV b (drP b + 1) 20 / 19
def drTwo (b : List Int) : Int := pickV b (drP b + 2) (drN b) + pickV b (drP b + 3) 20 / 19 * 40
theorem code_take {b : List Int} (h : ∀ x ∈ b, 0 ≤ x ∧ x ≤ 255) : codeOK (b.take 2000) := ⟨by rw [List.length_take]; omega, fun x hx => h x (List.mem_of_mem_take hx)⟩
theorem hullV_p (b : List Int) (p n : Int) : p ≤ (hullV b p n).2.2.2 ∧ (hullV b p n).2.2.2 ≤ p + 6 := by
  have ho := oddP_box (p + 3) n
  simp only [hullV]
  repeat (first | (dsimp only; omega) | split)

def c_spec_DrawApartOf : Ctr where
  modes := [.v (.r .u8)]
  al := true
  run := fun xs os => match xs, os with
    | [.rs .u8 b], [] => some ⟨∀ x ∈ b, 0 ≤ x ∧ x ≤ 255, .tup [.agg [.int (hullV (b.take 2000) 0 9).1, .int (hullV (b.take 2000) 0 9).2.1, .int (hullV (b.take 2000) 0 9).2.2.1], .int (drOne (b.take 2000)), .int (drTwo (b.take 2000))], [], []⟩
    | _, _ => none
theorem m_spec_DrawApartOf : Meets Try.prog 34 c_spec_DrawApartOf := by
  refine meets_of (T := tyT) tyOK Try.func34 (by rfl) rfl (by decide) ?_
  intro args owns R hrun hpre
  simp only [c_spec_DrawApartOf] at hrun
  split at hrun
  case h_2 => cases hrun
  rename_i b
  cases hrun
  dsimp only at hpre
  refine ⟨_, rfl, fun E hP hnt hnp => ?_⟩
  replace hnt : E.nt = 31 := hnt
  replace hnp : E.np = 1 := hnp
  have hT : ∀ t d, tyT t = some d → TyOK E.P t d := hP ▸ tyOK
  have hG : ∀ f C, Γof [(55, c_spec_l20Open), (56, c_spec_l20Rd_pick), (63, c_spec_l20Hull), (64, c_spec_SlotMany)] f = some C → Meets E.P f C := hΓof (by rw [hP]; exact ⟨m_spec_l20Open, m_spec_l20Rd_pick, m_spec_l20Hull, m_spec_SlotMany, trivial⟩)
  try simp only [show Try.f34.ntmps = 31 from rfl]
  have hc := code_take hpre
  have hp := hullV_p (b.take 2000) 0 9
  have hm := many_le (hullV (b.take 2000) 0 9).1 (hullV (b.take 2000) 0 9).2.1 (hullV (b.take 2000) 0 9).2.2.1
  have k1 := fun p => pick_box (b := b.take 2000) (p := p) (n := 20) (by omega)
  have k2 := fun p => pick_box (b := b.take 2000) (p := p) (n := max (many (hullV (b.take 2000) 0 9).1 (hullV (b.take 2000) 0 9).2.1 (hullV (b.take 2000) 0 9).2.2.1) 1) (by omega)
  have j1 := k1 ((hullV (b.take 2000) 0 9).2.2.2 + 1)
  have j2 := k1 ((hullV (b.take 2000) 0 9).2.2.2 + 3)
  have j3 := k2 ((hullV (b.take 2000) 0 9).2.2.2)
  have j4 := k2 ((hullV (b.take 2000) 0 9).2.2.2 + 2)
  refine W_seq (fun K1 hK1 => ?_)
  refine W_region hT hG [] [0, 2] ?_
  rw [hnt]
  simp only [baseS, eq_self, implies_true, if_true, if_false, reduceIte, Nat.reduceBEq, Nat.reduceEqDiff, Nat.reduceLT, Nat.reduceAdd, reduceCtorEq, tyInt, tdInt, tyHull, tdHull, tyBytes, tdBytes, tyRdP, tdRdP, c_spec_l20Open, c_spec_l20Rd_pick, c_spec_l20Hull, c_spec_SlotMany, storeAV, setAll, FT.of, List.set_cons_zero, List.set_cons_succ, Option.isSome_some, maxAV, Int.add_assoc, Int.reduceAdd]
  repeat (refine And.intro ?_ ?_; focus (first | exact ordP (by kernel_rfl) | with_reducible exact rfl | trivial | assumption | (simp only [inR]; omega) | omega | exact ⟨hc, by omega, by omega⟩ | exact ⟨_, rfl⟩))
  refine hK1 _ ?_
  clear hK1
  refine W_seq (fun K2 hK2 => ?_)
  refine W_region hT hG [] [2, 5] ?_
  rw [hnt]
  simp only [baseS, eq_self, implies_true, if_true, if_false, reduceIte, Nat.reduceBEq, Nat.reduceEqDiff, Nat.reduceLT, Nat.reduceAdd, reduceCtorEq, tyInt, tdInt, tyHull, tdHull, tyBytes, tdBytes, tyRdP, tdRdP, c_spec_l20Open, c_spec_l20Rd_pick, c_spec_l20Hull, c_spec_SlotMany, storeAV, setAll, FT.of, List.set_cons_zero, List.set_cons_succ, Option.isSome_some, maxAV, Int.add_assoc, Int.reduceAdd]
  repeat (refine And.intro ?_ ?_; focus (first | exact ordP (by kernel_rfl) | with_reducible exact rfl | trivial | assumption | (simp only [inR]; omega) | omega | exact ⟨hc, by omega, by omega⟩ | exact ⟨_, rfl⟩))
  refine hK2 _ ?_
  clear hK2
  refine W_seq (fun K3 hK3 => ?_)
  refine W_region hT hG [] [2, 5, 6] ?_
  rw [hnt]
  simp only [baseS, eq_self, implies_true, if_true, if_false, reduceIte, Nat.reduceBEq, Nat.reduceEqDiff, Nat.reduceLT, Nat.reduceAdd, reduceCtorEq, tyInt, tdInt, tyHull, tdHull, tyBytes, tdBytes, tyRdP, tdRdP, c_spec_l20Open, c_spec_l20Rd_pick, c_spec_l20Hull, c_spec_SlotMany, storeAV, setAll, FT.of, List.set_cons_zero, List.set_cons_succ, Option.isSome_some, maxAV, Int.add_assoc, Int.reduceAdd]
  repeat (refine And.intro ?_ ?_; focus (first | exact ordP (by kernel_rfl) | with_reducible exact rfl | trivial | assumption | (simp only [inR]; omega) | omega | exact ⟨hc, by omega, by omega⟩ | exact ⟨_, rfl⟩))
  refine hK3 _ ?_
  clear hK3
  refine W_seq (fun K4 hK4 => ?_)
  refine W_region hT hG [] [2, 5, 6, 7] ?_
  rw [hnt]
  simp only [baseS, eq_self, implies_true, if_true, if_false, reduceIte, Nat.reduceBEq, Nat.reduceEqDiff, Nat.reduceLT, Nat.reduceAdd, reduceCtorEq, tyInt, tdInt, tyHull, tdHull, tyBytes, tdBytes, tyRdP, tdRdP, c_spec_l20Open, c_spec_l20Rd_pick, c_spec_l20Hull, c_spec_SlotMany, storeAV, setAll, FT.of, List.set_cons_zero, List.set_cons_succ, Option.isSome_some, maxAV, Int.add_assoc, Int.reduceAdd]
  repeat (refine And.intro ?_ ?_; focus (first | exact ordP (by kernel_rfl) | with_reducible exact rfl | trivial | assumption | (simp only [inR]; omega) | omega | exact ⟨hc, by omega, by omega⟩ | exact ⟨_, rfl⟩))
  refine hK4 _ ?_
  clear hK4
  refine W_seq (fun K5 hK5 => ?_)
  refine W_region_draw hT hG (by rw [hP]; exact draws_ok) [] [2, 3, 4] ?_
  rw [hnt]
  simp only [baseS, eq_self, implies_true, if_true, if_false, reduceIte, Nat.reduceBEq, Nat.reduceEqDiff, Nat.reduceLT, Nat.reduceAdd, reduceCtorEq, tyInt, tdInt, tyHull, tdHull, tyBytes, tdBytes, tyRdP, tdRdP, c_spec_l20Open, c_spec_l20Rd_pick, c_spec_l20Hull, c_spec_SlotMany, storeAV, setAll, FT.of, List.set_cons_zero, List.set_cons_succ, Option.isSome_some, maxAV, Int.add_assoc, Int.reduceAdd]
  repeat (refine And.intro ?_ ?_; focus (first | exact ordP (by kernel_rfl) | with_reducible exact rfl | trivial | assumption | (simp only [inR]; omega) | omega | exact ⟨hc, by omega, by omega⟩ | exact ⟨_, rfl⟩))
  refine hK5 _ ?_
  clear hK5
  refine W_ret ?_
  simp only [thenQ, blockQ, loopQ, retQ, reduceIte, Nat.reduceEqDiff]
  refine ret0 ?_ rfl rfl (.inl rfl) rfl
  rfl

end Go.Proofs.Ytckkpfojapcmmaa
