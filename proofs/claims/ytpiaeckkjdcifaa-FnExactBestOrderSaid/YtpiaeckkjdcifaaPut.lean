/- Walks over plans with a further box. No condition. -/
import Derived.Test.YtpiaeckkjdcifaaLoadA
namespace Go.Proofs.Ytpiaeckkjdcifaa
open Go
set_option linter.unusedVariables false
set_option linter.unusedSimpArgs false

/-- The plan with a further box, and whether it is one. -/
def putR (b r t : Int) (bs : List BoxD) (p : List Int) (s n : Int) : List Int × Bool :=
  if planB b r t bs p = true then
    if (0 ≤ s ∧ s ≤ (p.length : Int) - 1) ∧ p.getD s.toNat 0 = 0 ∧ n ≠ 0 then
      if planB b r t bs (p.set s.toNat n) = true then (p.set s.toNat n, true) else (p, false)
    else (p, false)
  else ([], false)
theorem put_no {p : List Int} {s n : Int} (h : (¬ (0 ≤ s ∧ s ≤ (p.length : Int) - 1) ∨ ¬ p.getD s.toNat 0 = 0) ∨ n = 0) : ¬ ((0 ≤ s ∧ s ≤ (p.length : Int) - 1) ∧ p.getD s.toNat 0 = 0 ∧ n ≠ 0) := by
  rintro ⟨h1, h2, h3⟩
  rcases h with (h | h) | h
  · exact h h1
  · exact h h2
  · exact h3 h
theorem put_yes {p : List Int} {s n : Int} (h : ((0 ≤ s ∧ s ≤ (p.length : Int) - 1) ∧ p.getD s.toNat 0 = 0) ∧ ¬ n = 0) : (0 ≤ s ∧ s ≤ (p.length : Int) - 1) ∧ p.getD s.toNat 0 = 0 ∧ n ≠ 0 := ⟨h.1.1, h.1.2, h.2⟩
theorem set_back {p : List Int} {s n : Int} (h : ((0 ≤ s ∧ s ≤ (p.length : Int) - 1) ∧ p.getD s.toNat 0 = 0) ∧ ¬ n = 0) : (p.set s.toNat n).set s.toNat 0 = p := by
  have hi : s.toNat < p.length := by omega
  rw [List.set_set]
  have h0 := h.1.2
  rw [List.getD_eq_getElem?_getD, List.getElem?_eq_getElem hi] at h0
  apply List.ext_getElem
  · simp
  · intro j h1 h2
    rw [List.getElem_set]
    split
    · rename_i e; subst e; exact h0.symm
    · rfl

def c_slices_Clone_int_int : Ctr where
  modes := [.v (.r .i64)]
  al := false
  run := fun xs os => match xs, os with
    | [.rs .i64 a], [] => some ⟨a.length ≤ 1099511627776, .sl 0, [.sl 3 .i64 a], []⟩
    | _, _ => none
theorem m_slices_Clone_int_int : Meets Try.prog 93 c_slices_Clone_int_int := by
  refine meets_of (T := tyT) tyOK Try.func93 (by rfl) rfl (by decide) ?_
  intro args owns R hrun hpre
  simp only [c_slices_Clone_int_int] at hrun
  split at hrun
  case h_2 => cases hrun
  rename_i a
  cases hrun
  try dsimp only at hpre
  refine ⟨_, rfl, fun E hP hnt hnp => ?_⟩
  replace hnt : E.nt = 8 := hnt
  replace hnp : E.np = 1 := hnp
  have hT : ∀ t d, tyT t = some d → TyOK E.P t d := hP ▸ tyOK
  have hG : ∀ f C, Γof [] f = some C → Meets E.P f C := hΓof (by rw [hP]; exact trivial)
  try simp only [show Try.f93.ntmps = 8 from rfl]
  refine W_seq (fun K1 hK1 => ?_)
  refine W_region hT hG [] [0] ?_
  rw [hnt]
  simp only [baseS, eq_self, implies_true, if_true, if_false, reduceIte, Nat.reduceBEq, Nat.reduceEqDiff, Nat.reduceLT, Nat.reduceAdd, reduceCtorEq, tyInts, tdInts, decide_false, room, Nat.reduceLeDiff, Nat.zero_le, storeAV, rowQ, ownInts, FT.of, FT.setf, elems, appAV_I, appI, srcI, ownI, anyI, sameR, appAV_P, appP, srcP, ownP, anyP]
  repeat (refine And.intro ?_ ?_; focus (first | exact ordP (by kernel_rfl) | with_reducible exact rfl | assumption | trivial | (simp only [inR]; omega) | omega | (intro hh; (try obtain ⟨hh1, hh2⟩ := hh); (repeat' apply And.intro) <;> first | assumption | (simp only [inR]; omega) | omega | (intros; (repeat' apply And.intro) <;> first | assumption | (simp only [inR]; omega) | omega)) | (intros; (repeat' apply And.intro) <;> first | assumption | (simp only [inR]; omega) | omega | (simp_all; done) | (simp_all [inR]; omega))))
  refine hK1 _ ?_
  clear hK1
  refine W_seq (fun K2 hK2 => ?_)
  refine W_seq (fun K3 hK3 => ?_)
  refine W_region hT hG [] [0, 4] ?_
  rw [hnt]
  simp only [baseS, eq_self, implies_true, if_true, if_false, reduceIte, Nat.reduceBEq, Nat.reduceEqDiff, Nat.reduceLT, Nat.reduceAdd, reduceCtorEq, tyInts, tdInts, decide_false, room, Nat.reduceLeDiff, Nat.zero_le, storeAV, rowQ, ownInts, FT.of, FT.setf, elems, appAV_I, appI, srcI, ownI, anyI, sameR, appAV_P, appP, srcP, ownP, anyP]
  intro bn hbn
  repeat (refine And.intro ?_ ?_; focus (first | exact ordP (by kernel_rfl) | with_reducible exact rfl | assumption | trivial | (simp only [inR]; omega) | omega | (intro hh; (try obtain ⟨hh1, hh2⟩ := hh); (repeat' apply And.intro) <;> first | assumption | (simp only [inR]; omega) | omega | (intros; (repeat' apply And.intro) <;> first | assumption | (simp only [inR]; omega) | omega)) | (intros; (repeat' apply And.intro) <;> first | assumption | (simp only [inR]; omega) | omega | (simp_all; done) | (simp_all [inR]; omega))))
  refine hK3 _ ?_
  clear hK3
  refine W_cond (b := _) rfl (fun hc4 => ?_) (fun hc4 => ?_)
  · try simp only [decide_eq_true_eq, decide_eq_false_iff_not, ne_eq, Decidable.not_not, Bool.not_eq_true', Bool.not_eq_false', Bool.or_eq_true, Bool.and_eq_true, Bool.or_eq_false_iff, Bool.and_eq_false_iff] at hc4
    refine W_seq (fun K5 hK5 => ?_)
    refine W_region hT hG [] [2] ?_
    rw [hnt]
    simp only [baseS, eq_self, implies_true, if_true, if_false, reduceIte, Nat.reduceBEq, Nat.reduceEqDiff, Nat.reduceLT, Nat.reduceAdd, reduceCtorEq, tyInts, tdInts, decide_false, room, Nat.reduceLeDiff, Nat.zero_le, storeAV, rowQ, ownInts, FT.of, FT.setf, elems, appAV_I, appI, srcI, ownI, anyI, sameR, appAV_P, appP, srcP, ownP, anyP]
    repeat (refine And.intro ?_ ?_; focus (first | exact ordP (by kernel_rfl) | with_reducible exact rfl | assumption | trivial | (simp only [inR]; omega) | omega | (intro hh; (try obtain ⟨hh1, hh2⟩ := hh); (repeat' apply And.intro) <;> first | assumption | (simp only [inR]; omega) | omega | (intros; (repeat' apply And.intro) <;> first | assumption | (simp only [inR]; omega) | omega)) | (intros; (repeat' apply And.intro) <;> first | assumption | (simp only [inR]; omega) | omega | (simp_all; done) | (simp_all [inR]; omega))))
    refine hK5 _ ?_
    clear hK5
    refine W_re [(2, .own 3 .i64)] (by (try simp only [hnt, hnp]); rfl) ?_
    refine W_ret ?_
    simp only [thenQ, blockQ, loopQ, retQ, reduceIte, Nat.reduceEqDiff]
    refine ret1s 2 rfl rfl rfl ?_
    all_goals (
      first | exact (List.eq_nil_of_length_eq_zero (hbn hc4)).symm | rfl | simp)
  · try simp only [decide_eq_true_eq, decide_eq_false_iff_not, ne_eq, Decidable.not_not, Bool.not_eq_true', Bool.not_eq_false', Bool.or_eq_true, Bool.and_eq_true, Bool.or_eq_false_iff, Bool.and_eq_false_iff] at hc4
    refine W_skip ?_
    simp only [thenQ, blockQ, loopQ, reduceIte, Nat.reduceEqDiff]
    refine hK2 _ ?_
    clear hK2
    refine W_seq (fun K6 hK6 => ?_)
    refine W_region hT hG [] [2] ?_
    rw [hnt]
    simp only [baseS, eq_self, implies_true, if_true, if_false, reduceIte, Nat.reduceBEq, Nat.reduceEqDiff, Nat.reduceLT, Nat.reduceAdd, reduceCtorEq, tyInts, tdInts, decide_false, room, Nat.reduceLeDiff, Nat.zero_le, storeAV, rowQ, ownInts, FT.of, FT.setf, elems, appAV_I, appI, srcI, ownI, anyI, sameR, appAV_P, appP, srcP, ownP, anyP]
    repeat (refine And.intro ?_ ?_; focus (first | exact ordP (by kernel_rfl) | with_reducible exact rfl | assumption | trivial | (simp only [inR]; omega) | omega | (intro hh; (try obtain ⟨hh1, hh2⟩ := hh); (repeat' apply And.intro) <;> first | assumption | (simp only [inR]; omega) | omega | (intros; (repeat' apply And.intro) <;> first | assumption | (simp only [inR]; omega) | omega)) | (intros; (repeat' apply And.intro) <;> first | assumption | (simp only [inR]; omega) | omega | (simp_all; done) | (simp_all [inR]; omega))))
    refine hK6 _ ?_
    clear hK6
    refine W_re [(2, .own 3 .i64)] (by (try simp only [hnt, hnp]); rfl) ?_
    refine W_ret ?_
    simp only [thenQ, blockQ, loopQ, retQ, reduceIte, Nat.reduceEqDiff]
    refine ret1s 2 rfl rfl rfl ?_
    all_goals (
      first | exact (List.eq_nil_of_length_eq_zero (hbn hc4)).symm | rfl | simp)

end Go.Proofs.Ytpiaeckkjdcifaa
