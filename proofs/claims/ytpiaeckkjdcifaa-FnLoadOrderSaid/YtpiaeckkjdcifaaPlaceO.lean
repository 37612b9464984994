/- Walk over the place of a slot. No condition. -/
import Derived.Test.YtpiaeckkjdcifaaSlot
namespace Go.Proofs.Ytpiaeckkjdcifaa
open Go
set_option linter.unusedVariables false
set_option linter.unusedSimpArgs false

theorem pl3_no {b r t s : Int} (h : hv b r t = false ∨ ¬ (0 ≤ s ∧ s ≤ b * r * t - 1)) : plB b r t s = -1 ∧ plR b r t s = -1 ∧ plT b r t s = -1 := by
  have hn : inS b r t s = false := by
    cases hh : hv b r t with
    | false => exact inS_hv hh
    | true =>
      rcases h with h | h
      · rw [hh] at h; cases h
      · exact inS_not hh h
  simp only [plB, plR, plT, hn, Bool.false_eq_true, if_false, and_self]
theorem pl3_yes {b r t s : Int} (h : hv b r t = true ∧ (0 ≤ s ∧ s ≤ b * r * t - 1)) : plB b r t s = s / t / r ∧ plR b r t s = s / t % r ∧ plT b r t s = s % t := by
  have hn := inS_of h.1 h.2
  simp only [plB, plR, plT, hn, if_true, and_self]

def c_impl_PlaceOf : Ctr where
  modes := [.v .p, .v .p]
  al := false
  run := fun xs os => match xs, os with
    | [.agg [.int b, .int r, .int t], .int s], [] => some ⟨True, .tup [.int (plB b r t s), .int (plR b r t s), .int (plT b r t s)], [], []⟩
    | _, _ => none
theorem m_impl_PlaceOf : Meets Try.prog 40 c_impl_PlaceOf := by
  refine meets_of (T := tyT) tyOK Try.func40 (by rfl) rfl (by decide) ?_
  intro args owns R hrun hpre
  simp only [c_impl_PlaceOf] at hrun
  split at hrun
  case h_2 => cases hrun
  rename_i b r t s
  cases hrun
  try dsimp only at hpre
  refine ⟨_, rfl, fun E hP hnt hnp => ?_⟩
  replace hnt : E.nt = 30 := hnt
  replace hnp : E.np = 2 := hnp
  have hT : ∀ t d, tyT t = some d → TyOK E.P t d := hP ▸ tyOK
  have hG : ∀ f C, Γof [(62, c_impl_within), (78, c_impl_Hull_tier), (86, c_impl_HullValid), (87, c_impl_Hull_slots), (88, c_impl_Hull_bay), (89, c_impl_Hull_stack)] f = some C → Meets E.P f C := hΓof (by rw [hP]; exact ⟨m_impl_within, m_impl_Hull_tier, m_impl_HullValid, m_impl_Hull_slots, m_impl_Hull_bay, m_impl_Hull_stack, trivial⟩)
  try simp only [show Try.f40.ntmps = 30 from rfl]
  have hbb := @hv_box b r t
  refine W_seq (fun K1 hK1 => ?_)
  refine W_region hT hG [] [1, 2] ?_
  rw [hnt]
  simp only [baseS, eq_self, implies_true, if_true, if_false, reduceIte, Nat.reduceBEq, Nat.reduceEqDiff, Nat.reduceLT, Nat.reduceAdd, reduceCtorEq, tyInt, tdInt, tyHull, tdHull, c_impl_within, c_impl_Hull_tier, c_impl_HullValid, c_impl_Hull_slots, c_impl_Hull_bay, c_impl_Hull_stack]
  repeat (refine And.intro ?_ ?_; focus (first | exact ordP (by kernel_rfl) | with_reducible exact rfl | trivial | assumption | (simp only [inR]; omega) | omega | (refine ⟨?_, ?_, ?_⟩ <;> omega) | (refine ⟨?_, ?_, ?_, ?_⟩ <;> omega) | (refine ⟨?_, ?_⟩ <;> omega) | (simp_all; done)))
  refine hK1 _ ?_
  clear hK1
  refine W_seq (fun K2 hK2 => ?_)
  refine W_seq (fun K3 hK3 => ?_)
  refine W_region hT hG [] [1, 2, 17] ?_
  rw [hnt]
  simp only [baseS, eq_self, implies_true, if_true, if_false, reduceIte, Nat.reduceBEq, Nat.reduceEqDiff, Nat.reduceLT, Nat.reduceAdd, reduceCtorEq, tyInt, tdInt, tyHull, tdHull, c_impl_within, c_impl_Hull_tier, c_impl_HullValid, c_impl_Hull_slots, c_impl_Hull_bay, c_impl_Hull_stack]
  repeat (refine And.intro ?_ ?_; focus (first | with_reducible exact rfl | trivial | (intro hh; have hq := hbb (by cases hx : hv b r t <;> simp_all); exact ⟨hh, by simp only [inR]; omega⟩) | (cases hx : hv b r t <;> simp_all)))
  refine hK3 _ ?_
  clear hK3
  refine W_cond (b := _) rfl (fun hc4 => ?_) (fun hc4 => ?_)
  · try simp only [decide_eq_true_eq, decide_eq_false_iff_not, ne_eq, Decidable.not_not, Bool.not_eq_true', Bool.not_eq_false', Bool.or_eq_true, Bool.and_eq_true, Bool.or_eq_false_iff, Bool.and_eq_false_iff] at hc4
    refine W_seq (fun K5 hK5 => ?_)
    refine W_region hT hG [] [4, 5, 6] ?_
    rw [hnt]
    simp only [baseS, eq_self, implies_true, if_true, if_false, reduceIte, Nat.reduceBEq, Nat.reduceEqDiff, Nat.reduceLT, Nat.reduceAdd, reduceCtorEq, tyInt, tdInt, tyHull, tdHull, c_impl_within, c_impl_Hull_tier, c_impl_HullValid, c_impl_Hull_slots, c_impl_Hull_bay, c_impl_Hull_stack]
    repeat (refine And.intro ?_ ?_; focus (first | exact ordP (by kernel_rfl) | with_reducible exact rfl | trivial | assumption | (simp only [inR]; omega) | omega | (refine ⟨?_, ?_, ?_⟩ <;> omega) | (refine ⟨?_, ?_, ?_, ?_⟩ <;> omega) | (refine ⟨?_, ?_⟩ <;> omega) | (simp_all; done)))
    refine hK5 _ ?_
    clear hK5
    refine W_ret ?_
    simp only [thenQ, blockQ, loopQ, retQ, reduceIte, Nat.reduceEqDiff]
    refine ret0 ?_ rfl rfl (.inr rfl) rfl
    simp only [show Try.f40.results.toList = [ResultVar.tmp 4, ResultVar.tmp 5, ResultVar.tmp 6] from rfl, resAV, resL, look, Nat.reduceEqDiff, reduceIte, tyHull, tdHull, applyUps, noH, isStr, List.length_cons, List.length_nil, Nat.reduceAdd, and_self]
    all_goals (
      first | (have hi2 := pl3_yes hc4; rw [hi2.1, hi2.2.1, hi2.2.2]; done) | (have hi2 := pl3_no hc4; rw [hi2.1, hi2.2.1, hi2.2.2]; done))
  · try simp only [decide_eq_true_eq, decide_eq_false_iff_not, ne_eq, Decidable.not_not, Bool.not_eq_true', Bool.not_eq_false', Bool.or_eq_true, Bool.and_eq_true, Bool.or_eq_false_iff, Bool.and_eq_false_iff] at hc4
    refine W_skip ?_
    simp only [thenQ, blockQ, loopQ, reduceIte, Nat.reduceEqDiff]
    refine hK2 _ ?_
    clear hK2
    refine W_seq (fun K6 hK6 => ?_)
    refine W_region_draw hT hG (by rw [hP]; exact draws_ok) [] [4, 5, 6] ?_
    rw [hnt]
    have hi := inS_box (inS_of hc4.1 hc4.2)
    simp only [baseS, eq_self, implies_true, if_true, if_false, reduceIte, Nat.reduceBEq, Nat.reduceEqDiff, Nat.reduceLT, Nat.reduceAdd, reduceCtorEq, tyInt, tdInt, tyHull, tdHull, c_impl_within, c_impl_Hull_tier, c_impl_HullValid, c_impl_Hull_slots, c_impl_Hull_bay, c_impl_Hull_stack]
    repeat (refine And.intro ?_ ?_; focus (first | exact ordP (by kernel_rfl) | with_reducible exact rfl | trivial | assumption | (simp only [inR]; omega) | omega | (refine ⟨?_, ?_, ?_⟩ <;> omega) | (refine ⟨?_, ?_, ?_, ?_⟩ <;> omega) | (refine ⟨?_, ?_⟩ <;> omega) | (simp_all; done)))
    refine hK6 _ ?_
    clear hK6
    refine W_ret ?_
    simp only [thenQ, blockQ, loopQ, retQ, reduceIte, Nat.reduceEqDiff]
    refine ret0 ?_ rfl rfl (.inr rfl) rfl
    simp only [show Try.f40.results.toList = [ResultVar.tmp 4, ResultVar.tmp 5, ResultVar.tmp 6] from rfl, resAV, resL, look, Nat.reduceEqDiff, reduceIte, tyHull, tdHull, applyUps, noH, isStr, List.length_cons, List.length_nil, Nat.reduceAdd, and_self]
    all_goals (
      first | (have hi2 := pl3_yes hc4; rw [hi2.1, hi2.2.1, hi2.2.2]; done) | (have hi2 := pl3_no hc4; rw [hi2.1, hi2.2.1, hi2.2.2]; done))

end Go.Proofs.Ytpiaeckkjdcifaa
