/- Walks over loads, heels and trims. No condition. -/
import Derived.Test.YtpiaeckkjdcifaaLoadA
namespace Go.Proofs.Ytpiaeckkjdcifaa
open Go
set_option linter.unusedVariables false
set_option linter.unusedSimpArgs false

def c_impl_Hull_heelArm : Ctr where
  modes := [.v .p, .v .p]
  al := false
  run := fun xs os => match xs, os with
    | [.agg [.int b, .int r, .int t], .int s], [] => some ⟨(0 ≤ s ∧ s ≤ 35) ∧ (1 ≤ t ∧ t ≤ 3) ∧ (1 ≤ r ∧ r ≤ 3), .int (2 * (s / t % r) - (r - 1)), [], []⟩
    | _, _ => none
theorem m_impl_Hull_heelArm : Meets Try.prog 96 c_impl_Hull_heelArm := by
  refine meets_of (T := tyT) tyOK Try.func96 (by rfl) rfl (by decide) ?_
  intro args owns R hrun hpre
  simp only [c_impl_Hull_heelArm] at hrun
  split at hrun
  case h_2 => cases hrun
  rename_i b r t s
  cases hrun
  try dsimp only at hpre
  refine ⟨_, rfl, fun E hP hnt hnp => ?_⟩
  replace hnt : E.nt = 16 := hnt
  replace hnp : E.np = 2 := hnp
  have hT : ∀ t d, tyT t = some d → TyOK E.P t d := hP ▸ tyOK
  have hG : ∀ f C, Γof [(89, c_impl_Hull_stack)] f = some C → Meets E.P f C := hΓof (by rw [hP]; exact ⟨m_impl_Hull_stack, trivial⟩)
  try simp only [show Try.f96.ntmps = 16 from rfl]
  have hd := div_le hpre.1.1 (show 0 < t by omega)
  have q3 : 0 ≤ s / t % r := Int.emod_nonneg _ (by omega)
  have q4 : s / t % r < r := Int.emod_lt_of_pos _ (by omega)
  refine W_seq (fun K1 hK1 => ?_)
  refine W_region hT hG [] [1, 2] ?_
  rw [hnt]
  simp only [baseS, eq_self, implies_true, if_true, if_false, reduceIte, Nat.reduceBEq, Nat.reduceEqDiff, Nat.reduceLT, Nat.reduceAdd, reduceCtorEq, tyInt, tdInt, tyHull, tdHull, c_impl_Hull_stack]
  repeat (refine And.intro ?_ ?_; focus (first | exact ordP (by kernel_rfl) | with_reducible exact rfl | assumption | trivial | (simp only [inR]; omega) | omega | (intro hh; (try obtain ⟨hh1, hh2⟩ := hh); (repeat' apply And.intro) <;> first | assumption | (simp only [inR]; omega) | omega | (intros; (repeat' apply And.intro) <;> first | assumption | (simp only [inR]; omega) | omega)) | (intros; (repeat' apply And.intro) <;> first | assumption | (simp only [inR]; omega) | omega | (simp_all; done) | (simp_all [inR]; omega))))
  refine hK1 _ ?_
  clear hK1
  refine W_seq (fun K2 hK2 => ?_)
  refine W_region_draw hT hG (by rw [hP]; exact draws_ok) [] [4] ?_
  rw [hnt]
  simp only [baseS, eq_self, implies_true, if_true, if_false, reduceIte, Nat.reduceBEq, Nat.reduceEqDiff, Nat.reduceLT, Nat.reduceAdd, reduceCtorEq, tyInt, tdInt, tyHull, tdHull, c_impl_Hull_stack]
  repeat (refine And.intro ?_ ?_; focus (first | exact ordP (by kernel_rfl) | with_reducible exact rfl | assumption | trivial | (simp only [inR]; omega) | omega | (intro hh; (try obtain ⟨hh1, hh2⟩ := hh); (repeat' apply And.intro) <;> first | assumption | (simp only [inR]; omega) | omega | (intros; (repeat' apply And.intro) <;> first | assumption | (simp only [inR]; omega) | omega)) | (intros; (repeat' apply And.intro) <;> first | assumption | (simp only [inR]; omega) | omega | (simp_all; done) | (simp_all [inR]; omega))))
  refine hK2 _ ?_
  clear hK2
  refine W_ret ?_
  simp only [thenQ, blockQ, loopQ, retQ, reduceIte, Nat.reduceEqDiff]
  refine ret0 ?_ rfl rfl (.inr rfl) rfl
  simp only [show Try.f96.results.toList = [ResultVar.tmp 4] from rfl, resAV, resL, look, Nat.reduceEqDiff, reduceIte, tyHull, tdHull, applyUps, noH, isStr, List.length_cons, List.length_nil, Nat.reduceAdd, and_self]
  all_goals (
    first | rfl | (simp_all; done))

def c_spec_l8Heel : Ctr where
  modes := [.v .p, .v .p]
  al := false
  run := fun xs os => match xs, os with
    | [.agg [.int b, .int r, .int t], .int s], [] => some ⟨1 ≤ r ∧ r ≤ 3, .int (2 * plR b r t s - (r - 1)), [], []⟩
    | _, _ => none
theorem m_spec_l8Heel : Meets Try.prog 106 c_spec_l8Heel := by
  refine meets_of (T := tyT) tyOK Try.func106 (by rfl) rfl (by decide) ?_
  intro args owns R hrun hpre
  simp only [c_spec_l8Heel] at hrun
  split at hrun
  case h_2 => cases hrun
  rename_i b r t s
  cases hrun
  try dsimp only at hpre
  refine ⟨_, rfl, fun E hP hnt hnp => ?_⟩
  replace hnt : E.nt = 21 := hnt
  replace hnp : E.np = 2 := hnp
  have hT : ∀ t d, tyT t = some d → TyOK E.P t d := hP ▸ tyOK
  have hG : ∀ f C, Γof [(123, c_spec_PlaceOf)] f = some C → Meets E.P f C := hΓof (by rw [hP]; exact ⟨m_spec_PlaceOf, trivial⟩)
  try simp only [show Try.f106.ntmps = 21 from rfl]
  have hpl := pl3_le b r t s
  refine W_seq (fun K1 hK1 => ?_)
  refine W_region hT hG [] [1, 2] ?_
  rw [hnt]
  simp only [baseS, eq_self, implies_true, if_true, if_false, reduceIte, Nat.reduceBEq, Nat.reduceEqDiff, Nat.reduceLT, Nat.reduceAdd, reduceCtorEq, tyInt, tdInt, tyHull, tdHull, c_spec_PlaceOf]
  repeat (refine And.intro ?_ ?_; focus (first | exact ordP (by kernel_rfl) | with_reducible exact rfl | assumption | trivial | (simp only [inR]; omega) | omega | (intro hh; (try obtain ⟨hh1, hh2⟩ := hh); (repeat' apply And.intro) <;> first | assumption | (simp only [inR]; omega) | omega | (intros; (repeat' apply And.intro) <;> first | assumption | (simp only [inR]; omega) | omega)) | (intros; (repeat' apply And.intro) <;> first | assumption | (simp only [inR]; omega) | omega | (simp_all; done) | (simp_all [inR]; omega))))
  refine hK1 _ ?_
  clear hK1
  refine W_seq (fun K2 hK2 => ?_)
  refine W_region hT hG [] [2, 6] ?_
  rw [hnt]
  simp only [baseS, eq_self, implies_true, if_true, if_false, reduceIte, Nat.reduceBEq, Nat.reduceEqDiff, Nat.reduceLT, Nat.reduceAdd, reduceCtorEq, tyInt, tdInt, tyHull, tdHull, c_spec_PlaceOf]
  repeat (refine And.intro ?_ ?_; focus (first | exact ordP (by kernel_rfl) | with_reducible exact rfl | assumption | trivial | (simp only [inR]; omega) | omega | (intro hh; (try obtain ⟨hh1, hh2⟩ := hh); (repeat' apply And.intro) <;> first | assumption | (simp only [inR]; omega) | omega | (intros; (repeat' apply And.intro) <;> first | assumption | (simp only [inR]; omega) | omega)) | (intros; (repeat' apply And.intro) <;> first | assumption | (simp only [inR]; omega) | omega | (simp_all; done) | (simp_all [inR]; omega))))
  refine hK2 _ ?_
  clear hK2
  refine W_seq (fun K3 hK3 => ?_)
  refine W_region hT hG [] [4] ?_
  rw [hnt]
  simp only [baseS, eq_self, implies_true, if_true, if_false, reduceIte, Nat.reduceBEq, Nat.reduceEqDiff, Nat.reduceLT, Nat.reduceAdd, reduceCtorEq, tyInt, tdInt, tyHull, tdHull, c_spec_PlaceOf]
  repeat (refine And.intro ?_ ?_; focus (first | exact ordP (by kernel_rfl) | with_reducible exact rfl | assumption | trivial | (simp only [inR]; omega) | omega | (intro hh; (try obtain ⟨hh1, hh2⟩ := hh); (repeat' apply And.intro) <;> first | assumption | (simp only [inR]; omega) | omega | (intros; (repeat' apply And.intro) <;> first | assumption | (simp only [inR]; omega) | omega)) | (intros; (repeat' apply And.intro) <;> first | assumption | (simp only [inR]; omega) | omega | (simp_all; done) | (simp_all [inR]; omega))))
  refine hK3 _ ?_
  clear hK3
  refine W_ret ?_
  simp only [thenQ, blockQ, loopQ, retQ, reduceIte, Nat.reduceEqDiff]
  refine ret0 ?_ rfl rfl (.inr rfl) rfl
  simp only [show Try.f106.results.toList = [ResultVar.tmp 4] from rfl, resAV, resL, look, Nat.reduceEqDiff, reduceIte, tyHull, tdHull, applyUps, noH, isStr, List.length_cons, List.length_nil, Nat.reduceAdd, and_self]
  all_goals (
    first | rfl | (simp_all; done))

def c_impl_HeelOf : Ctr where
  modes := [.v .p, .v (.r .box), .v (.r .i64)]
  al := false
  run := fun xs os => match xs, os with
    | [.agg [.int b, .int r, .int t], .rs .box bs, .rs .i64 p], [] => some ⟨bs.length ≤ 9223372036854775807 ∧ p.length ≤ 9223372036854775807, .tup [.int (heelR b r t bs p), .bool (planB b r t bs p)], [], []⟩
    | _, _ => none
theorem m_impl_HeelOf : Meets Try.prog 45 c_impl_HeelOf := by
  refine meets_of (T := tyT) tyOK Try.func45 (by rfl) rfl (by decide) ?_
  intro args owns R hrun hpre
  simp only [c_impl_HeelOf] at hrun
  split at hrun
  case h_2 => cases hrun
  rename_i b r t bs p
  cases hrun
  try dsimp only at hpre
  refine ⟨_, rfl, fun E hP hnt hnp => ?_⟩
  replace hnt : E.nt = 34 := hnt
  replace hnp : E.np = 3 := hnp
  have hT : ∀ t d, tyT t = some d → TyOK E.P t d := hP ▸ tyOK
  have hG : ∀ f C, Γof [(47, c_impl_PlanValid), (95, c_impl_weightAt), (96, c_impl_Hull_heelArm)] f = some C → Meets E.P f C := hΓof (by rw [hP]; exact ⟨m_impl_PlanValid, m_impl_weightAt, m_impl_Hull_heelArm, trivial⟩)
  try simp only [show Try.f45.ntmps = 34 from rfl]
  have hbs := hpre.1
  have hp := hpre.2
  refine W_seq (fun K1 hK1 => ?_)
  refine W_region hT hG [] [1, 2, 3] ?_
  rw [hnt]
  simp only [baseS, eq_self, implies_true, if_true, if_false, reduceIte, Nat.reduceBEq, Nat.reduceEqDiff, Nat.reduceLT, Nat.reduceAdd, reduceCtorEq, tyInt, tdInt, tyInts, tdInts, tyHull, tdHull, tyBoxes, tdBoxes, c_impl_PlanValid, c_impl_weightAt, c_impl_Hull_heelArm]
  repeat (refine And.intro ?_ ?_; focus (first | exact ordP (by kernel_rfl) | with_reducible exact rfl | assumption | trivial | exact ⟨by omega, hok.inb _⟩ | exact ⟨by omega, ⟨by omega, by omega⟩, hok.inb _⟩ | (simp only [inR]; omega) | omega | exact ⟨by omega, by omega⟩ | (intro hh; (try obtain ⟨hh1, hh2⟩ := hh); (repeat' apply And.intro) <;> first | assumption | (simp only [inR]; omega) | omega)))
  refine hK1 _ ?_
  clear hK1
  refine W_seq (fun K2 hK2 => ?_)
  refine W_seq (fun K3 hK3 => ?_)
  refine W_region hT hG [] [1, 2, 3, 15] ?_
  rw [hnt]
  simp only [baseS, eq_self, implies_true, if_true, if_false, reduceIte, Nat.reduceBEq, Nat.reduceEqDiff, Nat.reduceLT, Nat.reduceAdd, reduceCtorEq, tyInt, tdInt, tyInts, tdInts, tyHull, tdHull, tyBoxes, tdBoxes, c_impl_PlanValid, c_impl_weightAt, c_impl_Hull_heelArm]
  repeat (refine And.intro ?_ ?_; focus (first | exact ordP (by kernel_rfl) | with_reducible exact rfl | assumption | trivial | exact ⟨by omega, hok.inb _⟩ | exact ⟨by omega, ⟨by omega, by omega⟩, hok.inb _⟩ | (simp only [inR]; omega) | omega | exact ⟨by omega, by omega⟩ | (intro hh; (try obtain ⟨hh1, hh2⟩ := hh); (repeat' apply And.intro) <;> first | assumption | (simp only [inR]; omega) | omega)))
  refine hK3 _ ?_
  clear hK3
  refine W_cond (b := _) rfl (fun hc4 => ?_) (fun hc4 => ?_)
  · try simp only [decide_eq_true_eq, decide_eq_false_iff_not, ne_eq, Decidable.not_not, Bool.not_eq_true', Bool.not_eq_false', Bool.or_eq_true, Bool.and_eq_true, Bool.or_eq_false_iff, Bool.and_eq_false_iff] at hc4
    refine W_seq (fun K5 hK5 => ?_)
    refine W_region hT hG [] [6, 7] ?_
    rw [hnt]
    simp only [baseS, eq_self, implies_true, if_true, if_false, reduceIte, Nat.reduceBEq, Nat.reduceEqDiff, Nat.reduceLT, Nat.reduceAdd, reduceCtorEq, tyInt, tdInt, tyInts, tdInts, tyHull, tdHull, tyBoxes, tdBoxes, c_impl_PlanValid, c_impl_weightAt, c_impl_Hull_heelArm]
    repeat (refine And.intro ?_ ?_; focus (first | exact ordP (by kernel_rfl) | with_reducible exact rfl | assumption | trivial | exact ⟨by omega, hok.inb _⟩ | exact ⟨by omega, ⟨by omega, by omega⟩, hok.inb _⟩ | (simp only [inR]; omega) | omega | exact ⟨by omega, by omega⟩ | (intro hh; (try obtain ⟨hh1, hh2⟩ := hh); (repeat' apply And.intro) <;> first | assumption | (simp only [inR]; omega) | omega)))
    refine hK5 _ ?_
    clear hK5
    refine W_ret ?_
    simp only [thenQ, blockQ, loopQ, retQ, reduceIte, Nat.reduceEqDiff]
    refine ret0 ?_ rfl rfl (.inr rfl) rfl
    simp only [show Try.f45.results.toList = [ResultVar.tmp 6, ResultVar.tmp 7] from rfl, resAV, resL, look, Nat.reduceEqDiff, reduceIte, tyHull, tdHull, applyUps, noH, isStr, List.length_cons, List.length_nil, Nat.reduceAdd, and_self]
    all_goals (
      first | (rw [heelR, if_pos hc4, hI, show i.toNat = p.length by omega, hc4]; done) | (rw [heelR, hc4]; rfl))
  · try simp only [decide_eq_true_eq, decide_eq_false_iff_not, ne_eq, Decidable.not_not, Bool.not_eq_true', Bool.not_eq_false', Bool.or_eq_true, Bool.and_eq_true, Bool.or_eq_false_iff, Bool.and_eq_false_iff] at hc4
    refine W_skip ?_
    simp only [thenQ, blockQ, loopQ, reduceIte, Nat.reduceEqDiff]
    refine hK2 _ ?_
    clear hK2
    refine W_seq (fun K6 hK6 => ?_)
    refine W_region hT hG [] [1, 2, 3, 8] ?_
    rw [hnt]
    simp only [baseS, eq_self, implies_true, if_true, if_false, reduceIte, Nat.reduceBEq, Nat.reduceEqDiff, Nat.reduceLT, Nat.reduceAdd, reduceCtorEq, tyInt, tdInt, tyInts, tdInts, tyHull, tdHull, tyBoxes, tdBoxes, c_impl_PlanValid, c_impl_weightAt, c_impl_Hull_heelArm]
    repeat (refine And.intro ?_ ?_; focus (first | exact ordP (by kernel_rfl) | with_reducible exact rfl | assumption | trivial | exact ⟨by omega, hok.inb _⟩ | exact ⟨by omega, ⟨by omega, by omega⟩, hok.inb _⟩ | (simp only [inR]; omega) | omega | exact ⟨by omega, by omega⟩ | (intro hh; (try obtain ⟨hh1, hh2⟩ := hh); (repeat' apply And.intro) <;> first | assumption | (simp only [inR]; omega) | omega)))
    refine hK6 _ ?_
    clear hK6
    refine W_seq (fun K7 hK7 => ?_)
    refine W_seq (fun K8 hK8 => ?_)
    refine W_region hT hG [] [1, 3, 8, 16, 17, 18] ?_
    rw [hnt]
    simp only [baseS, eq_self, implies_true, if_true, if_false, reduceIte, Nat.reduceBEq, Nat.reduceEqDiff, Nat.reduceLT, Nat.reduceAdd, reduceCtorEq, tyInt, tdInt, tyInts, tdInts, tyHull, tdHull, tyBoxes, tdBoxes, c_impl_PlanValid, c_impl_weightAt, c_impl_Hull_heelArm]
    repeat (refine And.intro ?_ ?_; focus (first | exact ordP (by kernel_rfl) | with_reducible exact rfl | assumption | trivial | exact ⟨by omega, hok.inb _⟩ | exact ⟨by omega, ⟨by omega, by omega⟩, hok.inb _⟩ | (simp only [inR]; omega) | omega | exact ⟨by omega, by omega⟩ | (intro hh; (try obtain ⟨hh1, hh2⟩ := hh); (repeat' apply And.intro) <;> first | assumption | (simp only [inR]; omega) | omega)))
    refine hK8 _ ?_
    clear hK8
    refine W_block ?_
    refine W_loop (α := Int × Int) [(1, .as), (3, .as), (8, .as), (16, .as), (17, .as), (18, .as)] (fun x => ⟨[(1, .rs .box bs), (3, .rp [.int b, .int r, .int t]), (8, .int x.2), (16, .rs .i64 p), (17, .int p.length), (18, .int x.1)], [], 34⟩) (fun x => 0 ≤ x.1 ∧ x.1 ≤ p.length ∧ (-(60 * x.1) ≤ x.2 ∧ x.2 ≤ 60 * x.1) ∧ x.2 = heelF r t bs p x.1.toNat) (fun x => (p.length - x.1).toNat) (0, 0) ?_ ?_ ?_
    · (try simp only [hnt, hnp]); rfl
    · exact ⟨by omega, by omega, by omega, rfl⟩
    rintro ⟨i, s⟩ ⟨hi0, hi1, hs, hI⟩
    dsimp only at hi0 hi1 hs hI ⊢
    have hok := planB_ok hc4
    have hle := hok.le
    have hw := wAt_le hok.boxes (hok.inb i.toNat)
    have ha := arm_box (i := i) hok hi0
    refine W_seq (fun K10 hK10 => ?_)
    refine W_region hT hG [] [1, 3, 8, 16, 17, 18, 19] ?_
    rw [hnt]
    simp only [baseS, eq_self, implies_true, if_true, if_false, reduceIte, Nat.reduceBEq, Nat.reduceEqDiff, Nat.reduceLT, Nat.reduceAdd, reduceCtorEq, tyInt, tdInt, tyInts, tdInts, tyHull, tdHull, tyBoxes, tdBoxes, c_impl_PlanValid, c_impl_weightAt, c_impl_Hull_heelArm]
    repeat (refine And.intro ?_ ?_; focus (first | exact ordP (by kernel_rfl) | with_reducible exact rfl | assumption | trivial | exact ⟨by omega, hok.inb _⟩ | exact ⟨by omega, ⟨by omega, by omega⟩, hok.inb _⟩ | (simp only [inR]; omega) | omega | exact ⟨by omega, by omega⟩ | (intro hh; (try obtain ⟨hh1, hh2⟩ := hh); (repeat' apply And.intro) <;> first | assumption | (simp only [inR]; omega) | omega)))
    refine hK10 _ ?_
    clear hK10
    refine W_seq (fun K11 hK11 => ?_)
    refine W_cond (b := _) rfl (fun hc12 => ?_) (fun hc12 => ?_)
    · try simp only [decide_eq_true_eq, decide_eq_false_iff_not, ne_eq, Decidable.not_not, Bool.not_eq_true', Bool.not_eq_false', Bool.or_eq_true, Bool.and_eq_true, Bool.or_eq_false_iff, Bool.and_eq_false_iff] at hc12
      refine W_skip ?_
      simp only [thenQ, blockQ, loopQ, reduceIte, Nat.reduceEqDiff]
      refine hK11 _ ?_
      clear hK11
      refine W_seq (fun K13 hK13 => ?_)
      refine W_block ?_
      refine W_seq (fun K14 hK14 => ?_)
      refine W_region hT hG [] [1, 3, 8, 9, 10, 16, 17, 18] ?_
      rw [hnt]
      simp only [baseS, eq_self, implies_true, if_true, if_false, reduceIte, Nat.reduceBEq, Nat.reduceEqDiff, Nat.reduceLT, Nat.reduceAdd, reduceCtorEq, tyInt, tdInt, tyInts, tdInts, tyHull, tdHull, tyBoxes, tdBoxes, c_impl_PlanValid, c_impl_weightAt, c_impl_Hull_heelArm]
      repeat (refine And.intro ?_ ?_; focus (first | exact ordP (by kernel_rfl) | with_reducible exact rfl | assumption | trivial | exact ⟨by omega, hok.inb _⟩ | exact ⟨by omega, ⟨by omega, by omega⟩, hok.inb _⟩ | (simp only [inR]; omega) | omega | exact ⟨by omega, by omega⟩ | (intro hh; (try obtain ⟨hh1, hh2⟩ := hh); (repeat' apply And.intro) <;> first | assumption | (simp only [inR]; omega) | omega)))
      refine hK14 _ ?_
      clear hK14
      refine W_region_draw hT hG (by rw [hP]; exact draws_ok) [] [1, 3, 8, 16, 17, 18] ?_
      rw [hnt]
      have ha := ha hc12
      simp only [baseS, eq_self, implies_true, if_true, if_false, reduceIte, Nat.reduceBEq, Nat.reduceEqDiff, Nat.reduceLT, Nat.reduceAdd, reduceCtorEq, tyInt, tdInt, tyInts, tdInts, tyHull, tdHull, tyBoxes, tdBoxes, c_impl_PlanValid, c_impl_weightAt, c_impl_Hull_heelArm]
      repeat (refine And.intro ?_ ?_; focus (first | exact ordP (by kernel_rfl) | with_reducible exact rfl | assumption | trivial | exact ⟨by omega, hok.inb _⟩ | exact ⟨by omega, ⟨by omega, by omega⟩, hok.inb _⟩ | (simp only [inR]; omega) | omega | exact ⟨by omega, by omega⟩ | (intro hh; (try obtain ⟨hh1, hh2⟩ := hh); (repeat' apply And.intro) <;> first | assumption | (simp only [inR]; omega) | omega)))
      refine hK13 _ ?_
      clear hK13
      refine W_region hT hG [] [1, 3, 8, 16, 17, 18] ?_
      rw [hnt]
      simp only [baseS, eq_self, implies_true, if_true, if_false, reduceIte, Nat.reduceBEq, Nat.reduceEqDiff, Nat.reduceLT, Nat.reduceAdd, reduceCtorEq, tyInt, tdInt, tyInts, tdInts, tyHull, tdHull, tyBoxes, tdBoxes, c_impl_PlanValid, c_impl_weightAt, c_impl_Hull_heelArm]
      repeat (refine And.intro ?_ ?_; focus (first | exact ordP (by kernel_rfl) | with_reducible exact rfl | assumption | trivial | exact ⟨by omega, hok.inb _⟩ | exact ⟨by omega, ⟨by omega, by omega⟩, hok.inb _⟩ | (simp only [inR]; omega) | omega | exact ⟨by omega, by omega⟩ | (intro hh; (try obtain ⟨hh1, hh2⟩ := hh); (repeat' apply And.intro) <;> first | assumption | (simp only [inR]; omega) | omega)))
      refine ⟨(i + 1, s + wAt bs (p.getD i.toNat 0) * (2 * (i / t % r) - (r - 1))), (by (try simp only [hnt, hnp]); rfl), ⟨by dsimp only; omega, by dsimp only; omega, by dsimp only; omega, by dsimp only; rw [heelF_step hi0, hI]⟩, by dsimp only; omega⟩
    · try simp only [decide_eq_true_eq, decide_eq_false_iff_not, ne_eq, Decidable.not_not, Bool.not_eq_true', Bool.not_eq_false', Bool.or_eq_true, Bool.and_eq_true, Bool.or_eq_false_iff, Bool.and_eq_false_iff] at hc12
      refine W_exit ?_
      simp only [thenQ, blockQ, loopQ, reduceIte, Nat.reduceEqDiff]
      refine hK7 _ ?_
      clear hK7
      refine W_seq (fun K15 hK15 => ?_)
      refine W_region hT hG [] [6, 7] ?_
      rw [hnt]
      simp only [baseS, eq_self, implies_true, if_true, if_false, reduceIte, Nat.reduceBEq, Nat.reduceEqDiff, Nat.reduceLT, Nat.reduceAdd, reduceCtorEq, tyInt, tdInt, tyInts, tdInts, tyHull, tdHull, tyBoxes, tdBoxes, c_impl_PlanValid, c_impl_weightAt, c_impl_Hull_heelArm]
      repeat (refine And.intro ?_ ?_; focus (first | exact ordP (by kernel_rfl) | with_reducible exact rfl | assumption | trivial | exact ⟨by omega, hok.inb _⟩ | exact ⟨by omega, ⟨by omega, by omega⟩, hok.inb _⟩ | (simp only [inR]; omega) | omega | exact ⟨by omega, by omega⟩ | (intro hh; (try obtain ⟨hh1, hh2⟩ := hh); (repeat' apply And.intro) <;> first | assumption | (simp only [inR]; omega) | omega)))
      refine hK15 _ ?_
      clear hK15
      refine W_ret ?_
      simp only [thenQ, blockQ, loopQ, retQ, reduceIte, Nat.reduceEqDiff]
      refine ret0 ?_ rfl rfl (.inr rfl) rfl
      simp only [show Try.f45.results.toList = [ResultVar.tmp 6, ResultVar.tmp 7] from rfl, resAV, resL, look, Nat.reduceEqDiff, reduceIte, tyHull, tdHull, applyUps, noH, isStr, List.length_cons, List.length_nil, Nat.reduceAdd, and_self]
      all_goals (
        first | (rw [heelR, if_pos hc4, hI, show i.toNat = p.length by omega, hc4]; done) | (rw [heelR, hc12]; rfl))

end Go.Proofs.Ytpiaeckkjdcifaa
