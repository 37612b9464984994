/- Walks over loads, heels and trims. No condition. -/
import Derived.Test.YtpiaeckkjdcifaaLoadA
namespace Go.Proofs.Ytpiaeckkjdcifaa
open Go
set_option linter.unusedVariables false
set_option linter.unusedSimpArgs false

def c_impl_Hull_heelArm : Ctr where
  modes := [.v .p, .v .p]
  al := false
  run := fun xs os => match xs, os with
    | [.agg [.int b, .int r, .int t], .int s], [] => some ⟨(0 ≤ s ∧ s ≤ 35) ∧ (1 ≤ t ∧ t ≤ 3) ∧ (1 ≤ r ∧ r ≤ 3), .int (2 * (s / t % r) - (r - 1)), [], []⟩
    | _, _ => none
theorem m_impl_Hull_heelArm : Meets Try.prog 96 c_impl_Hull_heelArm := by
  refine meets_of (T := tyT) tyOK Try.func96 (by rfl) rfl (by decide) ?_
  intro args owns R hrun hpre
  simp only [c_impl_Hull_heelArm] at hrun
  split at hrun
  case h_2 => cases hrun
  rename_i b r t s
  cases hrun
  try dsimp only at hpre
  refine ⟨_, rfl, fun E hP hnt hnp => ?_⟩
  replace hnt : E.nt = 16 := hnt
  replace hnp : E.np = 2 := hnp
  have hT : ∀ t d, tyT t = some d → TyOK E.P t d := hP ▸ tyOK
  have hG : ∀ f C, Γof [(89, c_impl_Hull_stack)] f = some C → Meets E.P f C := hΓof (by rw [hP]; exact ⟨m_impl_Hull_stack, trivial⟩)
  try simp only [show Try.f96.ntmps = 16 from rfl]
  have hd := div_le hpre.1.1 (show 0 < t by omega)
  have q3 : 0 ≤ s / t % r := Int.emod_nonneg _ (by omega)
  have q4 : s / t % r < r := Int.emod_lt_of_pos _ (by omega)
  refine W_seq (fun K1 hK1 => ?_)
  refine W_region hT hG [] [1, 2] ?_
  rw [hnt]
  simp only [baseS, eq_self, implies_true, if_true, if_false, reduceIte, Nat.reduceBEq, Nat.reduceEqDiff, Nat.reduceLT, Nat.reduceAdd, reduceCtorEq, tyInt, tdInt, tyHull, tdHull, c_impl_Hull_stack]
  repeat (refine And.intro ?_ ?_; focus (first | exact ordP (by kernel_rfl) | with_reducible exact rfl | assumption | trivial | (simp only [inR]; omega) | omega | (intro hh; (try obtain ⟨hh1, hh2⟩ := hh); (repeat' apply And.intro) <;> first | assumption | (simp only [inR]; omega) | omega | (intros; (repeat' apply And.intro) <;> first | assumption | (simp only [inR]; omega) | omega)) | (intros; (repeat' apply And.intro) <;> first | assumption | (simp only [inR]; omega) | omega | (simp_all; done) | (simp_all [inR]; omega))))
  refine hK1 _ ?_
  clear hK1
  refine W_seq (fun K2 hK2 => ?_)
  refine W_region_draw hT hG (by rw [hP]; exact draws_ok) [] [4] ?_
  rw [hnt]
  simp only [baseS, eq_self, implies_true, if_true, if_false, reduceIte, Nat.reduceBEq, Nat.reduceEqDiff, Nat.reduceLT, Nat.reduceAdd, reduceCtorEq, tyInt, tdInt, tyHull, tdHull, c_impl_Hull_stack]
  repeat (refine And.intro ?_ ?_; focus (first | exact ordP (by kernel_rfl) | with_reducible exact rfl | assumption | trivial | (simp only [inR]; omega) | omega | (intro hh; (try obtain ⟨hh1, hh2⟩ := hh); (repeat' apply And.intro) <;> first | assumption | (simp only [inR]; omega) | omega | (intros; (repeat' apply And.intro) <;> first | assumption | (simp only [inR]; omega) | omega)) | (intros; (repeat' apply And.intro) <;> first | assumption | (simp only [inR]; omega) | omega | (simp_all; done) | (simp_all [inR]; omega))))
  refine hK2 _ ?_
  clear hK2
  refine W_ret ?_
  simp only [thenQ, blockQ, loopQ, retQ, reduceIte, Nat.reduceEqDiff]
  refine ret0 ?_ rfl rfl (.inr rfl) rfl
  simp only [show Try.f96.results.toList = [ResultVar.tmp 4] from rfl, resAV, resL, look, Nat.reduceEqDiff, reduceIte, tyHull, tdHull, applyUps, noH, isStr, List.length_cons, List.length_nil, Nat.reduceAdd, and_self]
  all_goals (
    first | rfl | (simp_all; done))

def c_spec_l8Heel : Ctr where
  modes := [.v .p, .v .p]
  al := false
  run := fun xs os => match xs, os with
    | [.agg [.int b, .int r, .int t], .int s], [] => some ⟨1 ≤ r ∧ r ≤ 3, .int (2 * plR b r t s - (r - 1)), [], []⟩
    | _, _ => none
theorem m_spec_l8Heel : Meets Try.prog 106 c_spec_l8Heel := by
  refine meets_of (T := tyT) tyOK Try.func106 (by rfl) rfl (by decide) ?_
  intro args owns R hrun hpre
  simp only [c_spec_l8Heel] at hrun
  split at hrun
  case h_2 => cases hrun
  rename_i b r t s
  cases hrun
  try dsimp only at hpre
  refine ⟨_, rfl, fun E hP hnt hnp => ?_⟩
  replace hnt : E.nt = 21 := hnt
  replace hnp : E.np = 2 := hnp
  have hT : ∀ t d, tyT t = some d → TyOK E.P t d := hP ▸ tyOK
  have hG : ∀ f C, Γof [(123, c_spec_PlaceOf)] f = some C → Meets E.P f C := hΓof (by rw [hP]; exact ⟨m_spec_PlaceOf, trivial⟩)
  try simp only [show Try.f106.ntmps = 21 from rfl]
  have hpl := pl3_le b r t s
  refine W_seq (fun K1 hK1 => ?_)
  refine W_region hT hG [] [1, 2] ?_
  rw [hnt]
  simp only [baseS, eq_self, implies_true, if_true, if_false, reduceIte, Nat.reduceBEq, Nat.reduceEqDiff, Nat.reduceLT, Nat.reduceAdd, reduceCtorEq, tyInt, tdInt, tyHull, tdHull, c_spec_PlaceOf]
  repeat (refine And.intro ?_ ?_; focus (first | exact ordP (by kernel_rfl) | with_reducible exact rfl | assumption | trivial | (simp only [inR]; omega) | omega | (intro hh; (try obtain ⟨hh1, hh2⟩ := hh); (repeat' apply And.intro) <;> first | assumption | (simp only [inR]; omega) | omega | (intros; (repeat' apply And.intro) <;> first | assumption | (simp only [inR]; omega) | omega)) | (intros; (repeat' apply And.intro) <;> first | assumption | (simp only [inR]; omega) | omega | (simp_all; done) | (simp_all [inR]; omega))))
  refine hK1 _ ?_
  clear hK1
  refine W_seq (fun K2 hK2 => ?_)
  refine W_region hT hG [] [2, 6] ?_
  rw [hnt]
  simp only [baseS, eq_self, implies_true, if_true, if_false, reduceIte, Nat.reduceBEq, Nat.reduceEqDiff, Nat.reduceLT, Nat.reduceAdd, reduceCtorEq, tyInt, tdInt, tyHull, tdHull, c_spec_PlaceOf]
  repeat (refine And.intro ?_ ?_; focus (first | exact ordP (by kernel_rfl) | with_reducible exact rfl | assumption | trivial | (simp only [inR]; omega) | omega | (intro hh; (try obtain ⟨hh1, hh2⟩ := hh); (repeat' apply And.intro) <;> first | assumption | (simp only [inR]; omega) | omega | (intros; (repeat' apply And.intro) <;> first | assumption | (simp only [inR]; omega) | omega)) | (intros; (repeat' apply And.intro) <;> first | assumption | (simp only [inR]; omega) | omega | (simp_all; done) | (simp_all [inR]; omega))))
  refine hK2 _ ?_
  clear hK2
  refine W_seq (fun K3 hK3 => ?_)
  refine W_region hT hG [] [4] ?_
  rw [hnt]
  simp only [baseS, eq_self, implies_true, if_true, if_false, reduceIte, Nat.reduceBEq, Nat.reduceEqDiff, Nat.reduceLT, Nat.reduceAdd, reduceCtorEq, tyInt, tdInt, tyHull, tdHull, c_spec_PlaceOf]
  repeat (refine And.intro ?_ ?_; focus (first | exact ordP (by kernel_rfl) | with_reducible exact rfl | assumption | trivial | (simp only [inR]; omega) | omega | (intro hh; (try obtain ⟨hh1, hh2⟩ := hh); (repeat' apply And.intro) <;> first | assumption | (simp only [inR]; omega) | omega | (intros; (repeat' apply And.intro) <;> first | assumption | (simp only [inR]; omega) | omega)) | (intros; (repeat' apply And.intro) <;> first | assumption | (simp only [inR]; omega) | omega | (simp_all; done) | (simp_all [inR]; omega))))
  refine hK3 _ ?_
  clear hK3
  refine W_ret ?_
  simp only [thenQ, blockQ, loopQ, retQ, reduceIte, Nat.reduceEqDiff]
  refine ret0 ?_ rfl rfl (.inr rfl) rfl
  simp only [show Try.f106.results.toList = [ResultVar.tmp 4] from rfl, resAV, resL, look, Nat.reduceEqDiff, reduceIte, tyHull, tdHull, applyUps, noH, isStr, List.length_cons, List.length_nil, Nat.reduceAdd, and_self]
  all_goals (
    first | rfl | (simp_all; done))

end Go.Proofs.Ytpiaeckkjdcifaa
