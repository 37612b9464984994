/- Walks over drawn ships. No condition. -/
import Derived.Test.YtpiaeckkjdcifaaRd
namespace Go.Proofs.Ytpiaeckkjdcifaa
open Go
set_option linter.unusedVariables false
set_option linter.unusedSimpArgs false

theorem hullV_0 {b : List Int} {p n : Int} (h1 : oddB b (p + 3) n = true) (h2 : pickV b (oddP (p + 3) n) 3 = 0) : hullV b p n = ([0, 5].getD (pickV b (oddP (p + 3) n + 1) 2).toNat 0, 1 + pickV b (p + 1) 3, 1 + pickV b (p + 2) 3, oddP (p + 3) n + 2) := by
  simp only [hullV]; rw [if_pos h1, if_pos h2]
theorem hullV_1 {b : List Int} {p n : Int} (h1 : oddB b (p + 3) n = true) (h2 : ¬ pickV b (oddP (p + 3) n) 3 = 0) (h3 : pickV b (oddP (p + 3) n) 3 = 1) : hullV b p n = (1 + pickV b p 4, [0, 4].getD (pickV b (oddP (p + 3) n + 1) 2).toNat 0, 1 + pickV b (p + 2) 3, oddP (p + 3) n + 2) := by
  simp only [hullV]; rw [if_pos h1, if_neg h2, if_pos h3]
theorem hullV_2 {b : List Int} {p n : Int} (h1 : oddB b (p + 3) n = true) (h2 : ¬ pickV b (oddP (p + 3) n) 3 = 0) (h3 : ¬ pickV b (oddP (p + 3) n) 3 = 1) : hullV b p n = (1 + pickV b p 4, 1 + pickV b (p + 1) 3, [-1, 4].getD (pickV b (oddP (p + 3) n + 1) 2).toNat 0, oddP (p + 3) n + 2) := by
  simp only [hullV]; rw [if_pos h1, if_neg h2, if_neg h3]
theorem hullV_n {b : List Int} {p n : Int} (h1 : oddB b (p + 3) n = false) : hullV b p n = (1 + pickV b p 4, 1 + pickV b (p + 1) 3, 1 + pickV b (p + 2) 3, oddP (p + 3) n) := by
  simp only [hullV]; rw [if_neg (by rw [h1]; simp)]

def c_spec_l20Hull : Ctr where
  modes := [.m, .v .p]
  al := true
  run := fun xs os => match xs, os with
    | [.int n], [.var [.rs .u8 b, .int p]] => some ⟨codeOK b ∧ (0 ≤ p ∧ p ≤ 900000) ∧ (1 ≤ n ∧ n ≤ 1000), .agg [.int (hullV b p n).1, .int (hullV b p n).2.1, .int (hullV b p n).2.2.1], [], [.var [.rs .u8 b, .int (hullV b p n).2.2.2]]⟩
    | _, _ => none
theorem m_spec_l20Hull : Meets Try.prog 117 c_spec_l20Hull := by
  refine meets_of (T := tyT) tyOK Try.func117 (by rfl) rfl (by decide) ?_
  intro args owns R hrun hpre
  simp only [c_spec_l20Hull] at hrun
  split at hrun
  case h_2 => cases hrun
  rename_i n b p
  cases hrun
  try dsimp only at hpre
  refine ⟨⟨[(0, .op 0 0), (1, .int n)], [(0, some (.var [.rs .u8 b, .int p]))], 44⟩, rfl, fun E hP hnt hnp => ?_⟩
  replace hnt : E.nt = 44 := hnt
  replace hnp : E.np = 2 := hnp
  have hT : ∀ t d, tyT t = some d → TyOK E.P t d := hP ▸ tyOK
  have hG : ∀ f C, Γof [(59, c_spec_l20Rd_pick), (60, c_spec_l20Rd_odd)] f = some C → Meets E.P f C := hΓof (by rw [hP]; exact ⟨m_spec_l20Rd_pick, m_spec_l20Rd_odd, trivial⟩)
  try simp only [show Try.f117.ntmps = 44 from rfl]
  have hc := hpre.1
  have hp := hpre.2.1
  have hn := hpre.2.2
  have h4 := pick_box (b := b) (p := p) (n := 4) (by omega)
  have h3 := pick_box (b := b) (p := p + 1) (n := 3) (by omega)
  have h2 := pick_box (b := b) (p := p + 2) (n := 3) (by omega)
  have ho := oddP_box (p + 3) n
  have h5 := pick_box (b := b) (p := oddP (p + 3) n) (n := 3) (by omega)
  have h6 := pick_box (b := b) (p := oddP (p + 3) n + 1) (n := 2) (by omega)
  refine W_seq (fun K1 hK1 => ?_)
  refine W_region hT hG [] [0, 1, 4] ?_
  rw [hnt]
  simp only [baseS, eq_self, implies_true, if_true, if_false, reduceIte, Nat.reduceBEq, Nat.reduceEqDiff, Nat.reduceLT, Nat.reduceAdd, reduceCtorEq, tyInt, tdInt, tyInts, tdInts, tyHull, tdHull, tyRdP, tdRdP, c_spec_l20Rd_pick, c_spec_l20Rd_odd, storeAV, setAll, FT.of, elems, List.set_cons_zero, List.set_cons_succ, List.getD_cons_zero, Option.isSome_some, Int.add_assoc, Int.reduceAdd]
  repeat (refine And.intro ?_ ?_; focus (first | exact ordP (by kernel_rfl) | with_reducible exact rfl | trivial | assumption | (simp only [inR]; omega) | omega | exact ⟨hc, by omega, by omega⟩ | exact ⟨_, rfl⟩))
  refine hK1 _ ?_
  clear hK1
  refine W_seq (fun K2 hK2 => ?_)
  refine W_region hT hG [] [0, 1, 4, 5] ?_
  rw [hnt]
  simp only [baseS, eq_self, implies_true, if_true, if_false, reduceIte, Nat.reduceBEq, Nat.reduceEqDiff, Nat.reduceLT, Nat.reduceAdd, reduceCtorEq, tyInt, tdInt, tyInts, tdInts, tyHull, tdHull, tyRdP, tdRdP, c_spec_l20Rd_pick, c_spec_l20Rd_odd, storeAV, setAll, FT.of, elems, List.set_cons_zero, List.set_cons_succ, List.getD_cons_zero, Option.isSome_some, Int.add_assoc, Int.reduceAdd]
  repeat (refine And.intro ?_ ?_; focus (first | exact ordP (by kernel_rfl) | with_reducible exact rfl | trivial | assumption | (simp only [inR]; omega) | omega | exact ⟨hc, by omega, by omega⟩ | exact ⟨_, rfl⟩))
  refine hK2 _ ?_
  clear hK2
  refine W_seq (fun K3 hK3 => ?_)
  refine W_seq (fun K4 hK4 => ?_)
  refine W_region hT hG [] [0, 4, 5, 18] ?_
  rw [hnt]
  simp only [baseS, eq_self, implies_true, if_true, if_false, reduceIte, Nat.reduceBEq, Nat.reduceEqDiff, Nat.reduceLT, Nat.reduceAdd, reduceCtorEq, tyInt, tdInt, tyInts, tdInts, tyHull, tdHull, tyRdP, tdRdP, c_spec_l20Rd_pick, c_spec_l20Rd_odd, storeAV, setAll, FT.of, elems, List.set_cons_zero, List.set_cons_succ, List.getD_cons_zero, Option.isSome_some, Int.add_assoc, Int.reduceAdd]
  repeat (refine And.intro ?_ ?_; focus (first | exact ordP (by kernel_rfl) | with_reducible exact rfl | trivial | assumption | (simp only [inR]; omega) | omega | exact ⟨hc, by omega, by omega⟩ | exact ⟨_, rfl⟩))
  refine hK4 _ ?_
  clear hK4
  refine W_cond (b := _) rfl (fun hc5 => ?_) (fun hc5 => ?_)
  · try simp only [decide_eq_true_eq, decide_eq_false_iff_not, ne_eq, Decidable.not_not, Bool.not_eq_true', Bool.not_eq_false', Bool.or_eq_true, Bool.and_eq_true, Bool.or_eq_false_iff, Bool.and_eq_false_iff] at hc5
    refine W_seq (fun K6 hK6 => ?_)
    refine W_region hT hG [] [0, 4, 5, 20] ?_
    rw [hnt]
    simp only [baseS, eq_self, implies_true, if_true, if_false, reduceIte, Nat.reduceBEq, Nat.reduceEqDiff, Nat.reduceLT, Nat.reduceAdd, reduceCtorEq, tyInt, tdInt, tyInts, tdInts, tyHull, tdHull, tyRdP, tdRdP, c_spec_l20Rd_pick, c_spec_l20Rd_odd, storeAV, setAll, FT.of, elems, List.set_cons_zero, List.set_cons_succ, List.getD_cons_zero, Option.isSome_some, Int.add_assoc, Int.reduceAdd]
    repeat (refine And.intro ?_ ?_; focus (first | exact ordP (by kernel_rfl) | with_reducible exact rfl | trivial | assumption | (simp only [inR]; omega) | omega | exact ⟨hc, by omega, by omega⟩ | exact ⟨_, rfl⟩))
    refine hK6 _ ?_
    clear hK6
    refine W_block ?_
    refine W_seq (fun K7 hK7 => ?_)
    refine W_region hT hG [] [0, 4, 5, 20, 27] ?_
    rw [hnt]
    simp only [baseS, eq_self, implies_true, if_true, if_false, reduceIte, Nat.reduceBEq, Nat.reduceEqDiff, Nat.reduceLT, Nat.reduceAdd, reduceCtorEq, tyInt, tdInt, tyInts, tdInts, tyHull, tdHull, tyRdP, tdRdP, c_spec_l20Rd_pick, c_spec_l20Rd_odd, storeAV, setAll, FT.of, elems, List.set_cons_zero, List.set_cons_succ, List.getD_cons_zero, Option.isSome_some, Int.add_assoc, Int.reduceAdd]
    repeat (refine And.intro ?_ ?_; focus (first | exact ordP (by kernel_rfl) | with_reducible exact rfl | trivial | assumption | (simp only [inR]; omega) | omega | exact ⟨hc, by omega, by omega⟩ | exact ⟨_, rfl⟩))
    refine hK7 _ ?_
    clear hK7
    refine W_cond (b := _) rfl (fun hc8 => ?_) (fun hc8 => ?_)
    · try simp only [decide_eq_true_eq, decide_eq_false_iff_not, ne_eq, Decidable.not_not, Bool.not_eq_true', Bool.not_eq_false', Bool.or_eq_true, Bool.and_eq_true, Bool.or_eq_false_iff, Bool.and_eq_false_iff] at hc8
      refine W_region hT hG [] [0, 4, 5] ?_
      rw [hnt]
      simp only [baseS, eq_self, implies_true, if_true, if_false, reduceIte, Nat.reduceBEq, Nat.reduceEqDiff, Nat.reduceLT, Nat.reduceAdd, reduceCtorEq, tyInt, tdInt, tyInts, tdInts, tyHull, tdHull, tyRdP, tdRdP, c_spec_l20Rd_pick, c_spec_l20Rd_odd, storeAV, setAll, FT.of, elems, List.set_cons_zero, List.set_cons_succ, List.getD_cons_zero, Option.isSome_some, Int.add_assoc, Int.reduceAdd]
      repeat (refine And.intro ?_ ?_; focus (first | exact ordP (by kernel_rfl) | with_reducible exact rfl | trivial | assumption | (simp only [inR]; omega) | omega | exact ⟨hc, by omega, by omega⟩ | exact ⟨_, rfl⟩))
      refine hK3 _ ?_
      clear hK3
      refine W_seq (fun K9 hK9 => ?_)
      refine W_region hT hG [] [0, 4] ?_
      rw [hnt]
      simp only [baseS, eq_self, implies_true, if_true, if_false, reduceIte, Nat.reduceBEq, Nat.reduceEqDiff, Nat.reduceLT, Nat.reduceAdd, reduceCtorEq, tyInt, tdInt, tyInts, tdInts, tyHull, tdHull, tyRdP, tdRdP, c_spec_l20Rd_pick, c_spec_l20Rd_odd, storeAV, setAll, FT.of, elems, List.set_cons_zero, List.set_cons_succ, List.getD_cons_zero, Option.isSome_some, Int.add_assoc, Int.reduceAdd]
      repeat (refine And.intro ?_ ?_; focus (first | exact ordP (by kernel_rfl) | with_reducible exact rfl | trivial | assumption | (simp only [inR]; omega) | omega | exact ⟨hc, by omega, by omega⟩ | exact ⟨_, rfl⟩))
      refine hK9 _ ?_
      clear hK9
      refine W_ret ?_
      simp only [thenQ, blockQ, loopQ, retQ, reduceIte, Nat.reduceEqDiff]
      first | (rw [hullV_0 hc5 hc8]; exact retm 0 rfl rfl rfl rfl (.inl rfl) rfl) | (rw [hullV_1 hc5 hc5 hc8]; exact retm 0 rfl rfl rfl rfl (.inl rfl) rfl) | (rw [hullV_2 hc5 hc5 hc8]; exact retm 0 rfl rfl rfl rfl (.inl rfl) rfl) | (rw [hullV_n hc5]; exact retm 0 rfl rfl rfl rfl (.inl rfl) rfl)
    · try simp only [decide_eq_true_eq, decide_eq_false_iff_not, ne_eq, Decidable.not_not, Bool.not_eq_true', Bool.not_eq_false', Bool.or_eq_true, Bool.and_eq_true, Bool.or_eq_false_iff, Bool.and_eq_false_iff] at hc8
      refine W_seq (fun K10 hK10 => ?_)
      refine W_region hT hG [] [0, 4, 5, 35] ?_
      rw [hnt]
      simp only [baseS, eq_self, implies_true, if_true, if_false, reduceIte, Nat.reduceBEq, Nat.reduceEqDiff, Nat.reduceLT, Nat.reduceAdd, reduceCtorEq, tyInt, tdInt, tyInts, tdInts, tyHull, tdHull, tyRdP, tdRdP, c_spec_l20Rd_pick, c_spec_l20Rd_odd, storeAV, setAll, FT.of, elems, List.set_cons_zero, List.set_cons_succ, List.getD_cons_zero, Option.isSome_some, Int.add_assoc, Int.reduceAdd]
      repeat (refine And.intro ?_ ?_; focus (first | exact ordP (by kernel_rfl) | with_reducible exact rfl | trivial | assumption | (simp only [inR]; omega) | omega | exact ⟨hc, by omega, by omega⟩ | exact ⟨_, rfl⟩))
      refine hK10 _ ?_
      clear hK10
      refine W_cond (b := _) rfl (fun hc11 => ?_) (fun hc11 => ?_)
      · try simp only [decide_eq_true_eq, decide_eq_false_iff_not, ne_eq, Decidable.not_not, Bool.not_eq_true', Bool.not_eq_false', Bool.or_eq_true, Bool.and_eq_true, Bool.or_eq_false_iff, Bool.and_eq_false_iff] at hc11
        refine W_region hT hG [] [0, 4, 5] ?_
        rw [hnt]
        simp only [baseS, eq_self, implies_true, if_true, if_false, reduceIte, Nat.reduceBEq, Nat.reduceEqDiff, Nat.reduceLT, Nat.reduceAdd, reduceCtorEq, tyInt, tdInt, tyInts, tdInts, tyHull, tdHull, tyRdP, tdRdP, c_spec_l20Rd_pick, c_spec_l20Rd_odd, storeAV, setAll, FT.of, elems, List.set_cons_zero, List.set_cons_succ, List.getD_cons_zero, Option.isSome_some, Int.add_assoc, Int.reduceAdd]
        repeat (refine And.intro ?_ ?_; focus (first | exact ordP (by kernel_rfl) | with_reducible exact rfl | trivial | assumption | (simp only [inR]; omega) | omega | exact ⟨hc, by omega, by omega⟩ | exact ⟨_, rfl⟩))
        refine hK3 _ ?_
        clear hK3
        refine W_seq (fun K12 hK12 => ?_)
        refine W_region hT hG [] [0, 4] ?_
        rw [hnt]
        simp only [baseS, eq_self, implies_true, if_true, if_false, reduceIte, Nat.reduceBEq, Nat.reduceEqDiff, Nat.reduceLT, Nat.reduceAdd, reduceCtorEq, tyInt, tdInt, tyInts, tdInts, tyHull, tdHull, tyRdP, tdRdP, c_spec_l20Rd_pick, c_spec_l20Rd_odd, storeAV, setAll, FT.of, elems, List.set_cons_zero, List.set_cons_succ, List.getD_cons_zero, Option.isSome_some, Int.add_assoc, Int.reduceAdd]
        repeat (refine And.intro ?_ ?_; focus (first | exact ordP (by kernel_rfl) | with_reducible exact rfl | trivial | assumption | (simp only [inR]; omega) | omega | exact ⟨hc, by omega, by omega⟩ | exact ⟨_, rfl⟩))
        refine hK12 _ ?_
        clear hK12
        refine W_ret ?_
        simp only [thenQ, blockQ, loopQ, retQ, reduceIte, Nat.reduceEqDiff]
        first | (rw [hullV_0 hc5 hc11]; exact retm 0 rfl rfl rfl rfl (.inl rfl) rfl) | (rw [hullV_1 hc5 hc8 hc11]; exact retm 0 rfl rfl rfl rfl (.inl rfl) rfl) | (rw [hullV_2 hc5 hc8 hc11]; exact retm 0 rfl rfl rfl rfl (.inl rfl) rfl) | (rw [hullV_n hc5]; exact retm 0 rfl rfl rfl rfl (.inl rfl) rfl)
      · try simp only [decide_eq_true_eq, decide_eq_false_iff_not, ne_eq, Decidable.not_not, Bool.not_eq_true', Bool.not_eq_false', Bool.or_eq_true, Bool.and_eq_true, Bool.or_eq_false_iff, Bool.and_eq_false_iff] at hc11
        refine W_region hT hG [] [0, 4, 5] ?_
        rw [hnt]
        simp only [baseS, eq_self, implies_true, if_true, if_false, reduceIte, Nat.reduceBEq, Nat.reduceEqDiff, Nat.reduceLT, Nat.reduceAdd, reduceCtorEq, tyInt, tdInt, tyInts, tdInts, tyHull, tdHull, tyRdP, tdRdP, c_spec_l20Rd_pick, c_spec_l20Rd_odd, storeAV, setAll, FT.of, elems, List.set_cons_zero, List.set_cons_succ, List.getD_cons_zero, Option.isSome_some, Int.add_assoc, Int.reduceAdd]
        repeat (refine And.intro ?_ ?_; focus (first | exact ordP (by kernel_rfl) | with_reducible exact rfl | trivial | assumption | (simp only [inR]; omega) | omega | exact ⟨hc, by omega, by omega⟩ | exact ⟨_, rfl⟩))
        refine hK3 _ ?_
        clear hK3
        refine W_seq (fun K13 hK13 => ?_)
        refine W_region hT hG [] [0, 4] ?_
        rw [hnt]
        simp only [baseS, eq_self, implies_true, if_true, if_false, reduceIte, Nat.reduceBEq, Nat.reduceEqDiff, Nat.reduceLT, Nat.reduceAdd, reduceCtorEq, tyInt, tdInt, tyInts, tdInts, tyHull, tdHull, tyRdP, tdRdP, c_spec_l20Rd_pick, c_spec_l20Rd_odd, storeAV, setAll, FT.of, elems, List.set_cons_zero, List.set_cons_succ, List.getD_cons_zero, Option.isSome_some, Int.add_assoc, Int.reduceAdd]
        repeat (refine And.intro ?_ ?_; focus (first | exact ordP (by kernel_rfl) | with_reducible exact rfl | trivial | assumption | (simp only [inR]; omega) | omega | exact ⟨hc, by omega, by omega⟩ | exact ⟨_, rfl⟩))
        refine hK13 _ ?_
        clear hK13
        refine W_ret ?_
        simp only [thenQ, blockQ, loopQ, retQ, reduceIte, Nat.reduceEqDiff]
        first | (rw [hullV_0 hc5 hc11]; exact retm 0 rfl rfl rfl rfl (.inl rfl) rfl) | (rw [hullV_1 hc5 hc8 hc11]; exact retm 0 rfl rfl rfl rfl (.inl rfl) rfl) | (rw [hullV_2 hc5 hc8 hc11]; exact retm 0 rfl rfl rfl rfl (.inl rfl) rfl) | (rw [hullV_n hc5]; exact retm 0 rfl rfl rfl rfl (.inl rfl) rfl)
  · try simp only [decide_eq_true_eq, decide_eq_false_iff_not, ne_eq, Decidable.not_not, Bool.not_eq_true', Bool.not_eq_false', Bool.or_eq_true, Bool.and_eq_true, Bool.or_eq_false_iff, Bool.and_eq_false_iff] at hc5
    refine W_skip ?_
    simp only [thenQ, blockQ, loopQ, reduceIte, Nat.reduceEqDiff]
    refine hK3 _ ?_
    clear hK3
    refine W_seq (fun K14 hK14 => ?_)
    refine W_region hT hG [] [0, 4] ?_
    rw [hnt]
    simp only [baseS, eq_self, implies_true, if_true, if_false, reduceIte, Nat.reduceBEq, Nat.reduceEqDiff, Nat.reduceLT, Nat.reduceAdd, reduceCtorEq, tyInt, tdInt, tyInts, tdInts, tyHull, tdHull, tyRdP, tdRdP, c_spec_l20Rd_pick, c_spec_l20Rd_odd, storeAV, setAll, FT.of, elems, List.set_cons_zero, List.set_cons_succ, List.getD_cons_zero, Option.isSome_some, Int.add_assoc, Int.reduceAdd]
    repeat (refine And.intro ?_ ?_; focus (first | exact ordP (by kernel_rfl) | with_reducible exact rfl | trivial | assumption | (simp only [inR]; omega) | omega | exact ⟨hc, by omega, by omega⟩ | exact ⟨_, rfl⟩))
    refine hK14 _ ?_
    clear hK14
    refine W_ret ?_
    simp only [thenQ, blockQ, loopQ, retQ, reduceIte, Nat.reduceEqDiff]
    first | (rw [hullV_0 hc5 hc5]; exact retm 0 rfl rfl rfl rfl (.inl rfl) rfl) | (rw [hullV_1 hc5 HCPREV hc5]; exact retm 0 rfl rfl rfl rfl (.inl rfl) rfl) | (rw [hullV_2 hc5 HCPREV hc5]; exact retm 0 rfl rfl rfl rfl (.inl rfl) rfl) | (rw [hullV_n hc5]; exact retm 0 rfl rfl rfl rfl (.inl rfl) rfl)

end Go.Proofs.Ytpiaeckkjdcifaa
