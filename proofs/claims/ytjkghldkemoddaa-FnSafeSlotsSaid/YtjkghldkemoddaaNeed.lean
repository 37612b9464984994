/- Walks over how far boxes have to be apart. No condition. -/
import Derived.Test.YtjkghldkemoddaaHull
import Derived.Test.YtjkghldkemoddaaExact
namespace Go.Proofs.Ytjkghldkemoddaa
open Go
set_option linter.unusedVariables false
set_option linter.unusedSimpArgs false

/-- How far boxes of two classes have to be apart. -/
def need (a b : Int) : Int :=
  if 0 ≤ a ∧ a ≤ 3 ∧ 0 ≤ b ∧ b ≤ 3 then
    (if a = 0 ∨ b = 0 then 0 else if a = 3 ∧ b = 3 then 1 else if a = b then 0 else if a + b = 3 then 1 else if a + b = 4 then 2 else 3)
  else -1
theorem need_no {a b : Int} (h : ¬ (0 ≤ a ∧ a ≤ 3) ∨ ¬ (0 ≤ b ∧ b ≤ 3)) : need a b = -1 := by
  unfold need; rw [if_neg]; omega
def rowV (a : Int) : Value := .agg #[.int .i64 (need a 0), .int .i64 (need a 1), .int .i64 (need a 2), .int .i64 (need a 3)]
def tabV : Value := .agg #[.int .i64 0, .int .i64 0, .int .i64 0, .int .i64 0, .int .i64 0, .int .i64 0, .int .i64 1, .int .i64 2, .int .i64 0, .int .i64 1, .int .i64 0, .int .i64 3, .int .i64 0, .int .i64 2, .int .i64 3, .int .i64 1]

def c_impl_ApartNeed : Ctr where
  modes := [.v .p, .v .p]
  al := false
  run := fun xs os => match xs, os with
    | [.int a, .int b], [] => some ⟨True, .int (need a b), [], []⟩
    | _, _ => none
theorem m_impl_ApartNeed : Meets Try.prog 110 c_impl_ApartNeed := by
  refine meets_of (T := tyT) tyOK Try.func110 (by rfl) rfl (by decide) ?_
  intro args owns R hrun hpre
  simp only [c_impl_ApartNeed] at hrun
  split at hrun
  case h_2 => cases hrun
  rename_i a b
  cases hrun
  try dsimp only at hpre
  refine ⟨_, rfl, fun E hP hnt hnp => ?_⟩
  replace hnt : E.nt = 22 := hnt
  replace hnp : E.np = 2 := hnp
  have hT : ∀ t d, tyT t = some d → TyOK E.P t d := hP ▸ tyOK
  have hG : ∀ f C, Γof [(75, c_impl_within)] f = some C → Meets E.P f C := hΓof (by rw [hP]; exact ⟨m_impl_within, trivial⟩)
  try simp only [show Try.f110.ntmps = 22 from rfl]
  refine W_seq (fun K1 hK1 => ?_)
  refine W_region hT hG [] [0, 1] ?_
  rw [hnt]
  simp only [baseS, eq_self, implies_true, if_true, if_false, reduceIte, Nat.reduceBEq, Nat.reduceEqDiff, Nat.reduceLT, Nat.reduceAdd, reduceCtorEq, tyInt, tdInt, c_impl_within]
  repeat (refine And.intro ?_ ?_; focus (first | exact ordP (by kernel_rfl) | with_reducible exact rfl | assumption | trivial | (simp only [inR]; omega) | omega | (intro hh; (try obtain ⟨hh1, hh2⟩ := hh); (repeat' apply And.intro) <;> first | assumption | (simp only [inR]; omega) | omega | (intros; (repeat' apply And.intro) <;> first | assumption | (simp only [inR]; omega) | omega)) | (intros; (repeat' apply And.intro) <;> first | assumption | (simp only [inR]; omega) | omega | (simp_all; done) | (simp_all [inR]; omega))))
  refine hK1 _ ?_
  clear hK1
  refine W_seq (fun K2 hK2 => ?_)
  refine W_seq (fun K3 hK3 => ?_)
  refine W_region hT hG [] [0, 1, 12] ?_
  rw [hnt]
  simp only [baseS, eq_self, implies_true, if_true, if_false, reduceIte, Nat.reduceBEq, Nat.reduceEqDiff, Nat.reduceLT, Nat.reduceAdd, reduceCtorEq, tyInt, tdInt, c_impl_within]
  repeat (refine And.intro ?_ ?_; focus (first | exact ordP (by kernel_rfl) | with_reducible exact rfl | assumption | trivial | (simp only [inR]; omega) | omega | (intro hh; (try obtain ⟨hh1, hh2⟩ := hh); (repeat' apply And.intro) <;> first | assumption | (simp only [inR]; omega) | omega | (intros; (repeat' apply And.intro) <;> first | assumption | (simp only [inR]; omega) | omega)) | (intros; (repeat' apply And.intro) <;> first | assumption | (simp only [inR]; omega) | omega | (simp_all; done) | (simp_all [inR]; omega))))
  refine hK3 _ ?_
  clear hK3
  refine W_cond (b := _) rfl (fun hc4 => ?_) (fun hc4 => ?_)
  · try simp only [decide_eq_true_eq, decide_eq_false_iff_not, ne_eq, Decidable.not_not, Bool.not_eq_true', Bool.not_eq_false', Bool.or_eq_true, Bool.and_eq_true, Bool.or_eq_false_iff, Bool.and_eq_false_iff] at hc4
    refine W_seq (fun K5 hK5 => ?_)
    refine W_region hT hG [] [4] ?_
    rw [hnt]
    simp only [baseS, eq_self, implies_true, if_true, if_false, reduceIte, Nat.reduceBEq, Nat.reduceEqDiff, Nat.reduceLT, Nat.reduceAdd, reduceCtorEq, tyInt, tdInt, c_impl_within]
    repeat (refine And.intro ?_ ?_; focus (first | exact ordP (by kernel_rfl) | with_reducible exact rfl | assumption | trivial | (simp only [inR]; omega) | omega | (intro hh; (try obtain ⟨hh1, hh2⟩ := hh); (repeat' apply And.intro) <;> first | assumption | (simp only [inR]; omega) | omega | (intros; (repeat' apply And.intro) <;> first | assumption | (simp only [inR]; omega) | omega)) | (intros; (repeat' apply And.intro) <;> first | assumption | (simp only [inR]; omega) | omega | (simp_all; done) | (simp_all [inR]; omega))))
    refine hK5 _ ?_
    clear hK5
    refine W_ret ?_
    simp only [thenQ, blockQ, loopQ, retQ, reduceIte, Nat.reduceEqDiff]
    refine ret0 ?_ rfl rfl (.inr rfl) rfl
    simp only [show Try.f110.results.toList = [ResultVar.tmp 4] from rfl, resAV, resL, look, Nat.reduceEqDiff, reduceIte, tyHull, tdHull, applyUps, noH, isStr, List.length_cons, List.length_nil, Nat.reduceAdd, and_self]
    all_goals (
      exact congrArg (fun x => some (AV.int x)) (need_no hc4).symm)
  · try simp only [decide_eq_true_eq, decide_eq_false_iff_not, ne_eq, Decidable.not_not, Bool.not_eq_true', Bool.not_eq_false', Bool.or_eq_true, Bool.and_eq_true, Bool.or_eq_false_iff, Bool.and_eq_false_iff] at hc4
    refine W_skip ?_
    simp only [thenQ, blockQ, loopQ, reduceIte, Nat.reduceEqDiff]
    refine hK2 _ ?_
    clear hK2
    refine W_seq (fun K6 hK6 => ?_)
    have ha : a = 0 ∨ a = 1 ∨ a = 2 ∨ a = 3 := by omega
    have hb : b = 0 ∨ b = 1 ∨ b = 2 ∨ b = 3 := by omega
    clear hc4
    rcases ha with rfl | rfl | rfl | rfl <;> rcases hb with rfl | rfl | rfl | rfl
    · refine W_region_exact [4] [(_, rowV 0), (_, rowV 1), (_, rowV 2), (_, rowV 3), (_, tabV), (_, .int .i64 0), (_, rowV 0), (_, .int .i64 0), (_, .int .i64 (need 0 0)), (_, .int .i64 (need 0 0))] ?_
      refine ⟨⟨by rw [hnt]; rfl, rfl, rfl, rfl⟩, fun w => by rw [hP]; kernel_rfl, ⟨by rw [hnt]; rfl, rfl, rfl, rfl⟩, fun w => by rw [hP]; kernel_rfl, ⟨by rw [hnt]; rfl, rfl, rfl, rfl⟩, fun w => by rw [hP]; kernel_rfl, ⟨by rw [hnt]; rfl, rfl, rfl, rfl⟩, fun w => by rw [hP]; kernel_rfl, ⟨by rw [hnt]; rfl, rfl, rfl, rfl⟩, fun w => by rw [hP]; kernel_rfl, ?_⟩
      refine ⟨⟨by rw [hnt]; rfl, rfl, rfl, rfl⟩, fun w => by rw [hP]; kernel_rfl, ⟨by rw [hnt]; rfl, rfl, rfl, rfl⟩, fun w => by rw [hP]; kernel_rfl, ⟨by rw [hnt]; rfl, rfl, rfl, rfl⟩, fun w => by rw [hP]; kernel_rfl, ⟨by rw [hnt]; rfl, rfl, rfl, rfl⟩, fun w => by rw [hP]; kernel_rfl, ⟨by rw [hnt]; rfl, rfl, rfl, rfl⟩, fun w => by rw [hP]; kernel_rfl, ?_⟩
      refine hK6 _ ?_
      refine W_ret ?_
      simp only [thenQ, blockQ, loopQ, retQ, reduceIte, Nat.reduceEqDiff]
      exact ret0 rfl rfl rfl (.inr rfl) rfl
    · refine W_region_exact [4] [(_, rowV 0), (_, rowV 1), (_, rowV 2), (_, rowV 3), (_, tabV), (_, .int .i64 0), (_, rowV 0), (_, .int .i64 1), (_, .int .i64 (need 0 1)), (_, .int .i64 (need 0 1))] ?_
      refine ⟨⟨by rw [hnt]; rfl, rfl, rfl, rfl⟩, fun w => by rw [hP]; kernel_rfl, ⟨by rw [hnt]; rfl, rfl, rfl, rfl⟩, fun w => by rw [hP]; kernel_rfl, ⟨by rw [hnt]; rfl, rfl, rfl, rfl⟩, fun w => by rw [hP]; kernel_rfl, ⟨by rw [hnt]; rfl, rfl, rfl, rfl⟩, fun w => by rw [hP]; kernel_rfl, ⟨by rw [hnt]; rfl, rfl, rfl, rfl⟩, fun w => by rw [hP]; kernel_rfl, ?_⟩
      refine ⟨⟨by rw [hnt]; rfl, rfl, rfl, rfl⟩, fun w => by rw [hP]; kernel_rfl, ⟨by rw [hnt]; rfl, rfl, rfl, rfl⟩, fun w => by rw [hP]; kernel_rfl, ⟨by rw [hnt]; rfl, rfl, rfl, rfl⟩, fun w => by rw [hP]; kernel_rfl, ⟨by rw [hnt]; rfl, rfl, rfl, rfl⟩, fun w => by rw [hP]; kernel_rfl, ⟨by rw [hnt]; rfl, rfl, rfl, rfl⟩, fun w => by rw [hP]; kernel_rfl, ?_⟩
      refine hK6 _ ?_
      refine W_ret ?_
      simp only [thenQ, blockQ, loopQ, retQ, reduceIte, Nat.reduceEqDiff]
      exact ret0 rfl rfl rfl (.inr rfl) rfl
    · refine W_region_exact [4] [(_, rowV 0), (_, rowV 1), (_, rowV 2), (_, rowV 3), (_, tabV), (_, .int .i64 0), (_, rowV 0), (_, .int .i64 2), (_, .int .i64 (need 0 2)), (_, .int .i64 (need 0 2))] ?_
      refine ⟨⟨by rw [hnt]; rfl, rfl, rfl, rfl⟩, fun w => by rw [hP]; kernel_rfl, ⟨by rw [hnt]; rfl, rfl, rfl, rfl⟩, fun w => by rw [hP]; kernel_rfl, ⟨by rw [hnt]; rfl, rfl, rfl, rfl⟩, fun w => by rw [hP]; kernel_rfl, ⟨by rw [hnt]; rfl, rfl, rfl, rfl⟩, fun w => by rw [hP]; kernel_rfl, ⟨by rw [hnt]; rfl, rfl, rfl, rfl⟩, fun w => by rw [hP]; kernel_rfl, ?_⟩
      refine ⟨⟨by rw [hnt]; rfl, rfl, rfl, rfl⟩, fun w => by rw [hP]; kernel_rfl, ⟨by rw [hnt]; rfl, rfl, rfl, rfl⟩, fun w => by rw [hP]; kernel_rfl, ⟨by rw [hnt]; rfl, rfl, rfl, rfl⟩, fun w => by rw [hP]; kernel_rfl, ⟨by rw [hnt]; rfl, rfl, rfl, rfl⟩, fun w => by rw [hP]; kernel_rfl, ⟨by rw [hnt]; rfl, rfl, rfl, rfl⟩, fun w => by rw [hP]; kernel_rfl, ?_⟩
      refine hK6 _ ?_
      refine W_ret ?_
      simp only [thenQ, blockQ, loopQ, retQ, reduceIte, Nat.reduceEqDiff]
      exact ret0 rfl rfl rfl (.inr rfl) rfl
    · refine W_region_exact [4] [(_, rowV 0), (_, rowV 1), (_, rowV 2), (_, rowV 3), (_, tabV), (_, .int .i64 0), (_, rowV 0), (_, .int .i64 3), (_, .int .i64 (need 0 3)), (_, .int .i64 (need 0 3))] ?_
      refine ⟨⟨by rw [hnt]; rfl, rfl, rfl, rfl⟩, fun w => by rw [hP]; kernel_rfl, ⟨by rw [hnt]; rfl, rfl, rfl, rfl⟩, fun w => by rw [hP]; kernel_rfl, ⟨by rw [hnt]; rfl, rfl, rfl, rfl⟩, fun w => by rw [hP]; kernel_rfl, ⟨by rw [hnt]; rfl, rfl, rfl, rfl⟩, fun w => by rw [hP]; kernel_rfl, ⟨by rw [hnt]; rfl, rfl, rfl, rfl⟩, fun w => by rw [hP]; kernel_rfl, ?_⟩
      refine ⟨⟨by rw [hnt]; rfl, rfl, rfl, rfl⟩, fun w => by rw [hP]; kernel_rfl, ⟨by rw [hnt]; rfl, rfl, rfl, rfl⟩, fun w => by rw [hP]; kernel_rfl, ⟨by rw [hnt]; rfl, rfl, rfl, rfl⟩, fun w => by rw [hP]; kernel_rfl, ⟨by rw [hnt]; rfl, rfl, rfl, rfl⟩, fun w => by rw [hP]; kernel_rfl, ⟨by rw [hnt]; rfl, rfl, rfl, rfl⟩, fun w => by rw [hP]; kernel_rfl, ?_⟩
      refine hK6 _ ?_
      refine W_ret ?_
      simp only [thenQ, blockQ, loopQ, retQ, reduceIte, Nat.reduceEqDiff]
      exact ret0 rfl rfl rfl (.inr rfl) rfl
    · refine W_region_exact [4] [(_, rowV 0), (_, rowV 1), (_, rowV 2), (_, rowV 3), (_, tabV), (_, .int .i64 1), (_, rowV 1), (_, .int .i64 0), (_, .int .i64 (need 1 0)), (_, .int .i64 (need 1 0))] ?_
      refine ⟨⟨by rw [hnt]; rfl, rfl, rfl, rfl⟩, fun w => by rw [hP]; kernel_rfl, ⟨by rw [hnt]; rfl, rfl, rfl, rfl⟩, fun w => by rw [hP]; kernel_rfl, ⟨by rw [hnt]; rfl, rfl, rfl, rfl⟩, fun w => by rw [hP]; kernel_rfl, ⟨by rw [hnt]; rfl, rfl, rfl, rfl⟩, fun w => by rw [hP]; kernel_rfl, ⟨by rw [hnt]; rfl, rfl, rfl, rfl⟩, fun w => by rw [hP]; kernel_rfl, ?_⟩
      refine ⟨⟨by rw [hnt]; rfl, rfl, rfl, rfl⟩, fun w => by rw [hP]; kernel_rfl, ⟨by rw [hnt]; rfl, rfl, rfl, rfl⟩, fun w => by rw [hP]; kernel_rfl, ⟨by rw [hnt]; rfl, rfl, rfl, rfl⟩, fun w => by rw [hP]; kernel_rfl, ⟨by rw [hnt]; rfl, rfl, rfl, rfl⟩, fun w => by rw [hP]; kernel_rfl, ⟨by rw [hnt]; rfl, rfl, rfl, rfl⟩, fun w => by rw [hP]; kernel_rfl, ?_⟩
      refine hK6 _ ?_
      refine W_ret ?_
      simp only [thenQ, blockQ, loopQ, retQ, reduceIte, Nat.reduceEqDiff]
      exact ret0 rfl rfl rfl (.inr rfl) rfl
    · refine W_region_exact [4] [(_, rowV 0), (_, rowV 1), (_, rowV 2), (_, rowV 3), (_, tabV), (_, .int .i64 1), (_, rowV 1), (_, .int .i64 1), (_, .int .i64 (need 1 1)), (_, .int .i64 (need 1 1))] ?_
      refine ⟨⟨by rw [hnt]; rfl, rfl, rfl, rfl⟩, fun w => by rw [hP]; kernel_rfl, ⟨by rw [hnt]; rfl, rfl, rfl, rfl⟩, fun w => by rw [hP]; kernel_rfl, ⟨by rw [hnt]; rfl, rfl, rfl, rfl⟩, fun w => by rw [hP]; kernel_rfl, ⟨by rw [hnt]; rfl, rfl, rfl, rfl⟩, fun w => by rw [hP]; kernel_rfl, ⟨by rw [hnt]; rfl, rfl, rfl, rfl⟩, fun w => by rw [hP]; kernel_rfl, ?_⟩
      refine ⟨⟨by rw [hnt]; rfl, rfl, rfl, rfl⟩, fun w => by rw [hP]; kernel_rfl, ⟨by rw [hnt]; rfl, rfl, rfl, rfl⟩, fun w => by rw [hP]; kernel_rfl, ⟨by rw [hnt]; rfl, rfl, rfl, rfl⟩, fun w => by rw [hP]; kernel_rfl, ⟨by rw [hnt]; rfl, rfl, rfl, rfl⟩, fun w => by rw [hP]; kernel_rfl, ⟨by rw [hnt]; rfl, rfl, rfl, rfl⟩, fun w => by rw [hP]; kernel_rfl, ?_⟩
      refine hK6 _ ?_
      refine W_ret ?_
      simp only [thenQ, blockQ, loopQ, retQ, reduceIte, Nat.reduceEqDiff]
      exact ret0 rfl rfl rfl (.inr rfl) rfl
    · refine W_region_exact [4] [(_, rowV 0), (_, rowV 1), (_, rowV 2), (_, rowV 3), (_, tabV), (_, .int .i64 1), (_, rowV 1), (_, .int .i64 2), (_, .int .i64 (need 1 2)), (_, .int .i64 (need 1 2))] ?_
      refine ⟨⟨by rw [hnt]; rfl, rfl, rfl, rfl⟩, fun w => by rw [hP]; kernel_rfl, ⟨by rw [hnt]; rfl, rfl, rfl, rfl⟩, fun w => by rw [hP]; kernel_rfl, ⟨by rw [hnt]; rfl, rfl, rfl, rfl⟩, fun w => by rw [hP]; kernel_rfl, ⟨by rw [hnt]; rfl, rfl, rfl, rfl⟩, fun w => by rw [hP]; kernel_rfl, ⟨by rw [hnt]; rfl, rfl, rfl, rfl⟩, fun w => by rw [hP]; kernel_rfl, ?_⟩
      refine ⟨⟨by rw [hnt]; rfl, rfl, rfl, rfl⟩, fun w => by rw [hP]; kernel_rfl, ⟨by rw [hnt]; rfl, rfl, rfl, rfl⟩, fun w => by rw [hP]; kernel_rfl, ⟨by rw [hnt]; rfl, rfl, rfl, rfl⟩, fun w => by rw [hP]; kernel_rfl, ⟨by rw [hnt]; rfl, rfl, rfl, rfl⟩, fun w => by rw [hP]; kernel_rfl, ⟨by rw [hnt]; rfl, rfl, rfl, rfl⟩, fun w => by rw [hP]; kernel_rfl, ?_⟩
      refine hK6 _ ?_
      refine W_ret ?_
      simp only [thenQ, blockQ, loopQ, retQ, reduceIte, Nat.reduceEqDiff]
      exact ret0 rfl rfl rfl (.inr rfl) rfl
    · refine W_region_exact [4] [(_, rowV 0), (_, rowV 1), (_, rowV 2), (_, rowV 3), (_, tabV), (_, .int .i64 1), (_, rowV 1), (_, .int .i64 3), (_, .int .i64 (need 1 3)), (_, .int .i64 (need 1 3))] ?_
      refine ⟨⟨by rw [hnt]; rfl, rfl, rfl, rfl⟩, fun w => by rw [hP]; kernel_rfl, ⟨by rw [hnt]; rfl, rfl, rfl, rfl⟩, fun w => by rw [hP]; kernel_rfl, ⟨by rw [hnt]; rfl, rfl, rfl, rfl⟩, fun w => by rw [hP]; kernel_rfl, ⟨by rw [hnt]; rfl, rfl, rfl, rfl⟩, fun w => by rw [hP]; kernel_rfl, ⟨by rw [hnt]; rfl, rfl, rfl, rfl⟩, fun w => by rw [hP]; kernel_rfl, ?_⟩
      refine ⟨⟨by rw [hnt]; rfl, rfl, rfl, rfl⟩, fun w => by rw [hP]; kernel_rfl, ⟨by rw [hnt]; rfl, rfl, rfl, rfl⟩, fun w => by rw [hP]; kernel_rfl, ⟨by rw [hnt]; rfl, rfl, rfl, rfl⟩, fun w => by rw [hP]; kernel_rfl, ⟨by rw [hnt]; rfl, rfl, rfl, rfl⟩, fun w => by rw [hP]; kernel_rfl, ⟨by rw [hnt]; rfl, rfl, rfl, rfl⟩, fun w => by rw [hP]; kernel_rfl, ?_⟩
      refine hK6 _ ?_
      refine W_ret ?_
      simp only [thenQ, blockQ, loopQ, retQ, reduceIte, Nat.reduceEqDiff]
      exact ret0 rfl rfl rfl (.inr rfl) rfl
    · refine W_region_exact [4] [(_, rowV 0), (_, rowV 1), (_, rowV 2), (_, rowV 3), (_, tabV), (_, .int .i64 2), (_, rowV 2), (_, .int .i64 0), (_, .int .i64 (need 2 0)), (_, .int .i64 (need 2 0))] ?_
      refine ⟨⟨by rw [hnt]; rfl, rfl, rfl, rfl⟩, fun w => by rw [hP]; kernel_rfl, ⟨by rw [hnt]; rfl, rfl, rfl, rfl⟩, fun w => by rw [hP]; kernel_rfl, ⟨by rw [hnt]; rfl, rfl, rfl, rfl⟩, fun w => by rw [hP]; kernel_rfl, ⟨by rw [hnt]; rfl, rfl, rfl, rfl⟩, fun w => by rw [hP]; kernel_rfl, ⟨by rw [hnt]; rfl, rfl, rfl, rfl⟩, fun w => by rw [hP]; kernel_rfl, ?_⟩
      refine ⟨⟨by rw [hnt]; rfl, rfl, rfl, rfl⟩, fun w => by rw [hP]; kernel_rfl, ⟨by rw [hnt]; rfl, rfl, rfl, rfl⟩, fun w => by rw [hP]; kernel_rfl, ⟨by rw [hnt]; rfl, rfl, rfl, rfl⟩, fun w => by rw [hP]; kernel_rfl, ⟨by rw [hnt]; rfl, rfl, rfl, rfl⟩, fun w => by rw [hP]; kernel_rfl, ⟨by rw [hnt]; rfl, rfl, rfl, rfl⟩, fun w => by rw [hP]; kernel_rfl, ?_⟩
      refine hK6 _ ?_
      refine W_ret ?_
      simp only [thenQ, blockQ, loopQ, retQ, reduceIte, Nat.reduceEqDiff]
      exact ret0 rfl rfl rfl (.inr rfl) rfl
    · refine W_region_exact [4] [(_, rowV 0), (_, rowV 1), (_, rowV 2), (_, rowV 3), (_, tabV), (_, .int .i64 2), (_, rowV 2), (_, .int .i64 1), (_, .int .i64 (need 2 1)), (_, .int .i64 (need 2 1))] ?_
      refine ⟨⟨by rw [hnt]; rfl, rfl, rfl, rfl⟩, fun w => by rw [hP]; kernel_rfl, ⟨by rw [hnt]; rfl, rfl, rfl, rfl⟩, fun w => by rw [hP]; kernel_rfl, ⟨by rw [hnt]; rfl, rfl, rfl, rfl⟩, fun w => by rw [hP]; kernel_rfl, ⟨by rw [hnt]; rfl, rfl, rfl, rfl⟩, fun w => by rw [hP]; kernel_rfl, ⟨by rw [hnt]; rfl, rfl, rfl, rfl⟩, fun w => by rw [hP]; kernel_rfl, ?_⟩
      refine ⟨⟨by rw [hnt]; rfl, rfl, rfl, rfl⟩, fun w => by rw [hP]; kernel_rfl, ⟨by rw [hnt]; rfl, rfl, rfl, rfl⟩, fun w => by rw [hP]; kernel_rfl, ⟨by rw [hnt]; rfl, rfl, rfl, rfl⟩, fun w => by rw [hP]; kernel_rfl, ⟨by rw [hnt]; rfl, rfl, rfl, rfl⟩, fun w => by rw [hP]; kernel_rfl, ⟨by rw [hnt]; rfl, rfl, rfl, rfl⟩, fun w => by rw [hP]; kernel_rfl, ?_⟩
      refine hK6 _ ?_
      refine W_ret ?_
      simp only [thenQ, blockQ, loopQ, retQ, reduceIte, Nat.reduceEqDiff]
      exact ret0 rfl rfl rfl (.inr rfl) rfl
    · refine W_region_exact [4] [(_, rowV 0), (_, rowV 1), (_, rowV 2), (_, rowV 3), (_, tabV), (_, .int .i64 2), (_, rowV 2), (_, .int .i64 2), (_, .int .i64 (need 2 2)), (_, .int .i64 (need 2 2))] ?_
      refine ⟨⟨by rw [hnt]; rfl, rfl, rfl, rfl⟩, fun w => by rw [hP]; kernel_rfl, ⟨by rw [hnt]; rfl, rfl, rfl, rfl⟩, fun w => by rw [hP]; kernel_rfl, ⟨by rw [hnt]; rfl, rfl, rfl, rfl⟩, fun w => by rw [hP]; kernel_rfl, ⟨by rw [hnt]; rfl, rfl, rfl, rfl⟩, fun w => by rw [hP]; kernel_rfl, ⟨by rw [hnt]; rfl, rfl, rfl, rfl⟩, fun w => by rw [hP]; kernel_rfl, ?_⟩
      refine ⟨⟨by rw [hnt]; rfl, rfl, rfl, rfl⟩, fun w => by rw [hP]; kernel_rfl, ⟨by rw [hnt]; rfl, rfl, rfl, rfl⟩, fun w => by rw [hP]; kernel_rfl, ⟨by rw [hnt]; rfl, rfl, rfl, rfl⟩, fun w => by rw [hP]; kernel_rfl, ⟨by rw [hnt]; rfl, rfl, rfl, rfl⟩, fun w => by rw [hP]; kernel_rfl, ⟨by rw [hnt]; rfl, rfl, rfl, rfl⟩, fun w => by rw [hP]; kernel_rfl, ?_⟩
      refine hK6 _ ?_
      refine W_ret ?_
      simp only [thenQ, blockQ, loopQ, retQ, reduceIte, Nat.reduceEqDiff]
      exact ret0 rfl rfl rfl (.inr rfl) rfl
    · refine W_region_exact [4] [(_, rowV 0), (_, rowV 1), (_, rowV 2), (_, rowV 3), (_, tabV), (_, .int .i64 2), (_, rowV 2), (_, .int .i64 3), (_, .int .i64 (need 2 3)), (_, .int .i64 (need 2 3))] ?_
      refine ⟨⟨by rw [hnt]; rfl, rfl, rfl, rfl⟩, fun w => by rw [hP]; kernel_rfl, ⟨by rw [hnt]; rfl, rfl, rfl, rfl⟩, fun w => by rw [hP]; kernel_rfl, ⟨by rw [hnt]; rfl, rfl, rfl, rfl⟩, fun w => by rw [hP]; kernel_rfl, ⟨by rw [hnt]; rfl, rfl, rfl, rfl⟩, fun w => by rw [hP]; kernel_rfl, ⟨by rw [hnt]; rfl, rfl, rfl, rfl⟩, fun w => by rw [hP]; kernel_rfl, ?_⟩
      refine ⟨⟨by rw [hnt]; rfl, rfl, rfl, rfl⟩, fun w => by rw [hP]; kernel_rfl, ⟨by rw [hnt]; rfl, rfl, rfl, rfl⟩, fun w => by rw [hP]; kernel_rfl, ⟨by rw [hnt]; rfl, rfl, rfl, rfl⟩, fun w => by rw [hP]; kernel_rfl, ⟨by rw [hnt]; rfl, rfl, rfl, rfl⟩, fun w => by rw [hP]; kernel_rfl, ⟨by rw [hnt]; rfl, rfl, rfl, rfl⟩, fun w => by rw [hP]; kernel_rfl, ?_⟩
      refine hK6 _ ?_
      refine W_ret ?_
      simp only [thenQ, blockQ, loopQ, retQ, reduceIte, Nat.reduceEqDiff]
      exact ret0 rfl rfl rfl (.inr rfl) rfl
    · refine W_region_exact [4] [(_, rowV 0), (_, rowV 1), (_, rowV 2), (_, rowV 3), (_, tabV), (_, .int .i64 3), (_, rowV 3), (_, .int .i64 0), (_, .int .i64 (need 3 0)), (_, .int .i64 (need 3 0))] ?_
      refine ⟨⟨by rw [hnt]; rfl, rfl, rfl, rfl⟩, fun w => by rw [hP]; kernel_rfl, ⟨by rw [hnt]; rfl, rfl, rfl, rfl⟩, fun w => by rw [hP]; kernel_rfl, ⟨by rw [hnt]; rfl, rfl, rfl, rfl⟩, fun w => by rw [hP]; kernel_rfl, ⟨by rw [hnt]; rfl, rfl, rfl, rfl⟩, fun w => by rw [hP]; kernel_rfl, ⟨by rw [hnt]; rfl, rfl, rfl, rfl⟩, fun w => by rw [hP]; kernel_rfl, ?_⟩
      refine ⟨⟨by rw [hnt]; rfl, rfl, rfl, rfl⟩, fun w => by rw [hP]; kernel_rfl, ⟨by rw [hnt]; rfl, rfl, rfl, rfl⟩, fun w => by rw [hP]; kernel_rfl, ⟨by rw [hnt]; rfl, rfl, rfl, rfl⟩, fun w => by rw [hP]; kernel_rfl, ⟨by rw [hnt]; rfl, rfl, rfl, rfl⟩, fun w => by rw [hP]; kernel_rfl, ⟨by rw [hnt]; rfl, rfl, rfl, rfl⟩, fun w => by rw [hP]; kernel_rfl, ?_⟩
      refine hK6 _ ?_
      refine W_ret ?_
      simp only [thenQ, blockQ, loopQ, retQ, reduceIte, Nat.reduceEqDiff]
      exact ret0 rfl rfl rfl (.inr rfl) rfl
    · refine W_region_exact [4] [(_, rowV 0), (_, rowV 1), (_, rowV 2), (_, rowV 3), (_, tabV), (_, .int .i64 3), (_, rowV 3), (_, .int .i64 1), (_, .int .i64 (need 3 1)), (_, .int .i64 (need 3 1))] ?_
      refine ⟨⟨by rw [hnt]; rfl, rfl, rfl, rfl⟩, fun w => by rw [hP]; kernel_rfl, ⟨by rw [hnt]; rfl, rfl, rfl, rfl⟩, fun w => by rw [hP]; kernel_rfl, ⟨by rw [hnt]; rfl, rfl, rfl, rfl⟩, fun w => by rw [hP]; kernel_rfl, ⟨by rw [hnt]; rfl, rfl, rfl, rfl⟩, fun w => by rw [hP]; kernel_rfl, ⟨by rw [hnt]; rfl, rfl, rfl, rfl⟩, fun w => by rw [hP]; kernel_rfl, ?_⟩
      refine ⟨⟨by rw [hnt]; rfl, rfl, rfl, rfl⟩, fun w => by rw [hP]; kernel_rfl, ⟨by rw [hnt]; rfl, rfl, rfl, rfl⟩, fun w => by rw [hP]; kernel_rfl, ⟨by rw [hnt]; rfl, rfl, rfl, rfl⟩, fun w => by rw [hP]; kernel_rfl, ⟨by rw [hnt]; rfl, rfl, rfl, rfl⟩, fun w => by rw [hP]; kernel_rfl, ⟨by rw [hnt]; rfl, rfl, rfl, rfl⟩, fun w => by rw [hP]; kernel_rfl, ?_⟩
      refine hK6 _ ?_
      refine W_ret ?_
      simp only [thenQ, blockQ, loopQ, retQ, reduceIte, Nat.reduceEqDiff]
      exact ret0 rfl rfl rfl (.inr rfl) rfl
    · refine W_region_exact [4] [(_, rowV 0), (_, rowV 1), (_, rowV 2), (_, rowV 3), (_, tabV), (_, .int .i64 3), (_, rowV 3), (_, .int .i64 2), (_, .int .i64 (need 3 2)), (_, .int .i64 (need 3 2))] ?_
      refine ⟨⟨by rw [hnt]; rfl, rfl, rfl, rfl⟩, fun w => by rw [hP]; kernel_rfl, ⟨by rw [hnt]; rfl, rfl, rfl, rfl⟩, fun w => by rw [hP]; kernel_rfl, ⟨by rw [hnt]; rfl, rfl, rfl, rfl⟩, fun w => by rw [hP]; kernel_rfl, ⟨by rw [hnt]; rfl, rfl, rfl, rfl⟩, fun w => by rw [hP]; kernel_rfl, ⟨by rw [hnt]; rfl, rfl, rfl, rfl⟩, fun w => by rw [hP]; kernel_rfl, ?_⟩
      refine ⟨⟨by rw [hnt]; rfl, rfl, rfl, rfl⟩, fun w => by rw [hP]; kernel_rfl, ⟨by rw [hnt]; rfl, rfl, rfl, rfl⟩, fun w => by rw [hP]; kernel_rfl, ⟨by rw [hnt]; rfl, rfl, rfl, rfl⟩, fun w => by rw [hP]; kernel_rfl, ⟨by rw [hnt]; rfl, rfl, rfl, rfl⟩, fun w => by rw [hP]; kernel_rfl, ⟨by rw [hnt]; rfl, rfl, rfl, rfl⟩, fun w => by rw [hP]; kernel_rfl, ?_⟩
      refine hK6 _ ?_
      refine W_ret ?_
      simp only [thenQ, blockQ, loopQ, retQ, reduceIte, Nat.reduceEqDiff]
      exact ret0 rfl rfl rfl (.inr rfl) rfl
    · refine W_region_exact [4] [(_, rowV 0), (_, rowV 1), (_, rowV 2), (_, rowV 3), (_, tabV), (_, .int .i64 3), (_, rowV 3), (_, .int .i64 3), (_, .int .i64 (need 3 3)), (_, .int .i64 (need 3 3))] ?_
      refine ⟨⟨by rw [hnt]; rfl, rfl, rfl, rfl⟩, fun w => by rw [hP]; kernel_rfl, ⟨by rw [hnt]; rfl, rfl, rfl, rfl⟩, fun w => by rw [hP]; kernel_rfl, ⟨by rw [hnt]; rfl, rfl, rfl, rfl⟩, fun w => by rw [hP]; kernel_rfl, ⟨by rw [hnt]; rfl, rfl, rfl, rfl⟩, fun w => by rw [hP]; kernel_rfl, ⟨by rw [hnt]; rfl, rfl, rfl, rfl⟩, fun w => by rw [hP]; kernel_rfl, ?_⟩
      refine ⟨⟨by rw [hnt]; rfl, rfl, rfl, rfl⟩, fun w => by rw [hP]; kernel_rfl, ⟨by rw [hnt]; rfl, rfl, rfl, rfl⟩, fun w => by rw [hP]; kernel_rfl, ⟨by rw [hnt]; rfl, rfl, rfl, rfl⟩, fun w => by rw [hP]; kernel_rfl, ⟨by rw [hnt]; rfl, rfl, rfl, rfl⟩, fun w => by rw [hP]; kernel_rfl, ⟨by rw [hnt]; rfl, rfl, rfl, rfl⟩, fun w => by rw [hP]; kernel_rfl, ?_⟩
      refine hK6 _ ?_
      refine W_ret ?_
      simp only [thenQ, blockQ, loopQ, retQ, reduceIte, Nat.reduceEqDiff]
      exact ret0 rfl rfl rfl (.inr rfl) rfl

def c_spec_ApartNeed : Ctr where
  modes := [.v .p, .v .p]
  al := false
  run := fun xs os => match xs, os with
    | [.int a, .int b], [] => some ⟨True, .int (need a b), [], []⟩
    | _, _ => none
theorem m_spec_ApartNeed : Meets Try.prog 113 c_spec_ApartNeed := by
  refine meets_of (T := tyT) tyOK Try.func113 (by rfl) rfl (by decide) ?_
  intro args owns R hrun hpre
  simp only [c_spec_ApartNeed] at hrun
  split at hrun
  case h_2 => cases hrun
  rename_i a b
  cases hrun
  try dsimp only at hpre
  refine ⟨_, rfl, fun E hP hnt hnp => ?_⟩
  replace hnt : E.nt = 45 := hnt
  replace hnp : E.np = 2 := hnp
  have hT : ∀ t d, tyT t = some d → TyOK E.P t d := hP ▸ tyOK
  have hG : ∀ f C, Γof [] f = some C → Meets E.P f C := hΓof (by rw [hP]; exact trivial)
  try simp only [show Try.f113.ntmps = 45 from rfl]
  refine W_seq (fun K1 hK1 => ?_)
  refine W_region hT hG [] [0, 1] ?_
  rw [hnt]
  simp only [baseS, eq_self, implies_true, if_true, if_false, reduceIte, Nat.reduceBEq, Nat.reduceEqDiff, Nat.reduceLT, Nat.reduceAdd, reduceCtorEq, tyInt, tdInt, maxAV, minAV]
  repeat (refine And.intro ?_ ?_; focus (first | exact ordP (by kernel_rfl) | with_reducible exact rfl | assumption | trivial | (simp only [inR]; omega) | omega | (intro hh; (try obtain ⟨hh1, hh2⟩ := hh); (repeat' apply And.intro) <;> first | assumption | (simp only [inR]; omega) | omega | (intros; (repeat' apply And.intro) <;> first | assumption | (simp only [inR]; omega) | omega)) | (intros; (repeat' apply And.intro) <;> first | assumption | (simp only [inR]; omega) | omega | (simp_all; done) | (simp_all [inR]; omega))))
  refine hK1 _ ?_
  clear hK1
  refine W_seq (fun K2 hK2 => ?_)
  refine W_region hT hG [] [0, 1, 5] ?_
  rw [hnt]
  simp only [baseS, eq_self, implies_true, if_true, if_false, reduceIte, Nat.reduceBEq, Nat.reduceEqDiff, Nat.reduceLT, Nat.reduceAdd, reduceCtorEq, tyInt, tdInt, maxAV, minAV]
  repeat (refine And.intro ?_ ?_; focus (first | exact ordP (by kernel_rfl) | with_reducible exact rfl | assumption | trivial | (simp only [inR]; omega) | omega | (intro hh; (try obtain ⟨hh1, hh2⟩ := hh); (repeat' apply And.intro) <;> first | assumption | (simp only [inR]; omega) | omega | (intros; (repeat' apply And.intro) <;> first | assumption | (simp only [inR]; omega) | omega)) | (intros; (repeat' apply And.intro) <;> first | assumption | (simp only [inR]; omega) | omega | (simp_all; done) | (simp_all [inR]; omega))))
  refine hK2 _ ?_
  clear hK2
  refine W_seq (fun K3 hK3 => ?_)
  refine W_region hT hG [] [5, 6] ?_
  rw [hnt]
  simp only [baseS, eq_self, implies_true, if_true, if_false, reduceIte, Nat.reduceBEq, Nat.reduceEqDiff, Nat.reduceLT, Nat.reduceAdd, reduceCtorEq, tyInt, tdInt, maxAV, minAV]
  repeat (refine And.intro ?_ ?_; focus (first | exact ordP (by kernel_rfl) | with_reducible exact rfl | assumption | trivial | (simp only [inR]; omega) | omega | (intro hh; (try obtain ⟨hh1, hh2⟩ := hh); (repeat' apply And.intro) <;> first | assumption | (simp only [inR]; omega) | omega | (intros; (repeat' apply And.intro) <;> first | assumption | (simp only [inR]; omega) | omega)) | (intros; (repeat' apply And.intro) <;> first | assumption | (simp only [inR]; omega) | omega | (simp_all; done) | (simp_all [inR]; omega))))
  refine hK3 _ ?_
  clear hK3
  refine W_seq (fun K4 hK4 => ?_)
  refine W_block ?_
  refine W_seq (fun K5 hK5 => ?_)
  refine W_region hT hG [] [5, 6, 13] ?_
  rw [hnt]
  simp only [baseS, eq_self, implies_true, if_true, if_false, reduceIte, Nat.reduceBEq, Nat.reduceEqDiff, Nat.reduceLT, Nat.reduceAdd, reduceCtorEq, tyInt, tdInt, maxAV, minAV]
  repeat (refine And.intro ?_ ?_; focus (first | exact ordP (by kernel_rfl) | with_reducible exact rfl | assumption | trivial | (simp only [inR]; omega) | omega | (intro hh; (try obtain ⟨hh1, hh2⟩ := hh); (repeat' apply And.intro) <;> first | assumption | (simp only [inR]; omega) | omega | (intros; (repeat' apply And.intro) <;> first | assumption | (simp only [inR]; omega) | omega)) | (intros; (repeat' apply And.intro) <;> first | assumption | (simp only [inR]; omega) | omega | (simp_all; done) | (simp_all [inR]; omega))))
  refine hK5 _ ?_
  clear hK5
  refine W_cond (b := _) rfl (fun hc6 => ?_) (fun hc6 => ?_)
  · try simp only [decide_eq_true_eq, decide_eq_false_iff_not, ne_eq, Decidable.not_not, Bool.not_eq_true', Bool.not_eq_false', Bool.or_eq_true, Bool.and_eq_true, Bool.or_eq_false_iff, Bool.and_eq_false_iff] at hc6
    refine W_seq (fun K7 hK7 => ?_)
    refine W_region hT hG [] [4] ?_
    rw [hnt]
    simp only [baseS, eq_self, implies_true, if_true, if_false, reduceIte, Nat.reduceBEq, Nat.reduceEqDiff, Nat.reduceLT, Nat.reduceAdd, reduceCtorEq, tyInt, tdInt, maxAV, minAV]
    repeat (refine And.intro ?_ ?_; focus (first | exact ordP (by kernel_rfl) | with_reducible exact rfl | assumption | trivial | (simp only [inR]; omega) | omega | (intro hh; (try obtain ⟨hh1, hh2⟩ := hh); (repeat' apply And.intro) <;> first | assumption | (simp only [inR]; omega) | omega | (intros; (repeat' apply And.intro) <;> first | assumption | (simp only [inR]; omega) | omega)) | (intros; (repeat' apply And.intro) <;> first | assumption | (simp only [inR]; omega) | omega | (simp_all; done) | (simp_all [inR]; omega))))
    refine hK7 _ ?_
    clear hK7
    refine W_ret ?_
    simp only [thenQ, blockQ, loopQ, retQ, reduceIte, Nat.reduceEqDiff]
    refine ret0 ?_ rfl rfl (.inr rfl) rfl
    simp only [show Try.f113.results.toList = [ResultVar.tmp 4] from rfl, resAV, resL, look, Nat.reduceEqDiff, reduceIte, tyHull, tdHull, applyUps, noH, isStr, List.length_cons, List.length_nil, Nat.reduceAdd, and_self]
    all_goals (
      refine congrArg (fun x => some (AV.int x)) ?_
      unfold need; repeat (first | rfl | (exfalso; omega) | split))
  · try simp only [decide_eq_true_eq, decide_eq_false_iff_not, ne_eq, Decidable.not_not, Bool.not_eq_true', Bool.not_eq_false', Bool.or_eq_true, Bool.and_eq_true, Bool.or_eq_false_iff, Bool.and_eq_false_iff] at hc6
    refine W_seq (fun K8 hK8 => ?_)
    refine W_region hT hG [] [5, 6, 20] ?_
    rw [hnt]
    simp only [baseS, eq_self, implies_true, if_true, if_false, reduceIte, Nat.reduceBEq, Nat.reduceEqDiff, Nat.reduceLT, Nat.reduceAdd, reduceCtorEq, tyInt, tdInt, maxAV, minAV]
    repeat (refine And.intro ?_ ?_; focus (first | exact ordP (by kernel_rfl) | with_reducible exact rfl | assumption | trivial | (simp only [inR]; omega) | omega | (intro hh; (try obtain ⟨hh1, hh2⟩ := hh); (repeat' apply And.intro) <;> first | assumption | (simp only [inR]; omega) | omega | (intros; (repeat' apply And.intro) <;> first | assumption | (simp only [inR]; omega) | omega)) | (intros; (repeat' apply And.intro) <;> first | assumption | (simp only [inR]; omega) | omega | (simp_all; done) | (simp_all [inR]; omega))))
    refine hK8 _ ?_
    clear hK8
    refine W_cond (b := _) rfl (fun hc9 => ?_) (fun hc9 => ?_)
    · try simp only [decide_eq_true_eq, decide_eq_false_iff_not, ne_eq, Decidable.not_not, Bool.not_eq_true', Bool.not_eq_false', Bool.or_eq_true, Bool.and_eq_true, Bool.or_eq_false_iff, Bool.and_eq_false_iff] at hc9
      refine W_seq (fun K10 hK10 => ?_)
      refine W_region hT hG [] [4] ?_
      rw [hnt]
      simp only [baseS, eq_self, implies_true, if_true, if_false, reduceIte, Nat.reduceBEq, Nat.reduceEqDiff, Nat.reduceLT, Nat.reduceAdd, reduceCtorEq, tyInt, tdInt, maxAV, minAV]
      repeat (refine And.intro ?_ ?_; focus (first | exact ordP (by kernel_rfl) | with_reducible exact rfl | assumption | trivial | (simp only [inR]; omega) | omega | (intro hh; (try obtain ⟨hh1, hh2⟩ := hh); (repeat' apply And.intro) <;> first | assumption | (simp only [inR]; omega) | omega | (intros; (repeat' apply And.intro) <;> first | assumption | (simp only [inR]; omega) | omega)) | (intros; (repeat' apply And.intro) <;> first | assumption | (simp only [inR]; omega) | omega | (simp_all; done) | (simp_all [inR]; omega))))
      refine hK10 _ ?_
      clear hK10
      refine W_ret ?_
      simp only [thenQ, blockQ, loopQ, retQ, reduceIte, Nat.reduceEqDiff]
      refine ret0 ?_ rfl rfl (.inr rfl) rfl
      simp only [show Try.f113.results.toList = [ResultVar.tmp 4] from rfl, resAV, resL, look, Nat.reduceEqDiff, reduceIte, tyHull, tdHull, applyUps, noH, isStr, List.length_cons, List.length_nil, Nat.reduceAdd, and_self]
      all_goals (
        refine congrArg (fun x => some (AV.int x)) ?_
        unfold need; repeat (first | rfl | (exfalso; omega) | split))
    · try simp only [decide_eq_true_eq, decide_eq_false_iff_not, ne_eq, Decidable.not_not, Bool.not_eq_true', Bool.not_eq_false', Bool.or_eq_true, Bool.and_eq_true, Bool.or_eq_false_iff, Bool.and_eq_false_iff] at hc9
      refine W_seq (fun K11 hK11 => ?_)
      refine W_region hT hG [] [5, 6, 23] ?_
      rw [hnt]
      simp only [baseS, eq_self, implies_true, if_true, if_false, reduceIte, Nat.reduceBEq, Nat.reduceEqDiff, Nat.reduceLT, Nat.reduceAdd, reduceCtorEq, tyInt, tdInt, maxAV, minAV]
      repeat (refine And.intro ?_ ?_; focus (first | exact ordP (by kernel_rfl) | with_reducible exact rfl | assumption | trivial | (simp only [inR]; omega) | omega | (intro hh; (try obtain ⟨hh1, hh2⟩ := hh); (repeat' apply And.intro) <;> first | assumption | (simp only [inR]; omega) | omega | (intros; (repeat' apply And.intro) <;> first | assumption | (simp only [inR]; omega) | omega)) | (intros; (repeat' apply And.intro) <;> first | assumption | (simp only [inR]; omega) | omega | (simp_all; done) | (simp_all [inR]; omega))))
      refine hK11 _ ?_
      clear hK11
      refine W_cond (b := _) rfl (fun hc12 => ?_) (fun hc12 => ?_)
      · try simp only [decide_eq_true_eq, decide_eq_false_iff_not, ne_eq, Decidable.not_not, Bool.not_eq_true', Bool.not_eq_false', Bool.or_eq_true, Bool.and_eq_true, Bool.or_eq_false_iff, Bool.and_eq_false_iff] at hc12
        refine W_seq (fun K13 hK13 => ?_)
        refine W_region hT hG [] [4] ?_
        rw [hnt]
        simp only [baseS, eq_self, implies_true, if_true, if_false, reduceIte, Nat.reduceBEq, Nat.reduceEqDiff, Nat.reduceLT, Nat.reduceAdd, reduceCtorEq, tyInt, tdInt, maxAV, minAV]
        repeat (refine And.intro ?_ ?_; focus (first | exact ordP (by kernel_rfl) | with_reducible exact rfl | assumption | trivial | (simp only [inR]; omega) | omega | (intro hh; (try obtain ⟨hh1, hh2⟩ := hh); (repeat' apply And.intro) <;> first | assumption | (simp only [inR]; omega) | omega | (intros; (repeat' apply And.intro) <;> first | assumption | (simp only [inR]; omega) | omega)) | (intros; (repeat' apply And.intro) <;> first | assumption | (simp only [inR]; omega) | omega | (simp_all; done) | (simp_all [inR]; omega))))
        refine hK13 _ ?_
        clear hK13
        refine W_ret ?_
        simp only [thenQ, blockQ, loopQ, retQ, reduceIte, Nat.reduceEqDiff]
        refine ret0 ?_ rfl rfl (.inr rfl) rfl
        simp only [show Try.f113.results.toList = [ResultVar.tmp 4] from rfl, resAV, resL, look, Nat.reduceEqDiff, reduceIte, tyHull, tdHull, applyUps, noH, isStr, List.length_cons, List.length_nil, Nat.reduceAdd, and_self]
        all_goals (
          refine congrArg (fun x => some (AV.int x)) ?_
          unfold need; repeat (first | rfl | (exfalso; omega) | split))
      · try simp only [decide_eq_true_eq, decide_eq_false_iff_not, ne_eq, Decidable.not_not, Bool.not_eq_true', Bool.not_eq_false', Bool.or_eq_true, Bool.and_eq_true, Bool.or_eq_false_iff, Bool.and_eq_false_iff] at hc12
        refine W_seq (fun K14 hK14 => ?_)
        refine W_region hT hG [] [5, 6, 31] ?_
        rw [hnt]
        simp only [baseS, eq_self, implies_true, if_true, if_false, reduceIte, Nat.reduceBEq, Nat.reduceEqDiff, Nat.reduceLT, Nat.reduceAdd, reduceCtorEq, tyInt, tdInt, maxAV, minAV]
        repeat (refine And.intro ?_ ?_; focus (first | exact ordP (by kernel_rfl) | with_reducible exact rfl | assumption | trivial | (simp only [inR]; omega) | omega | (intro hh; (try obtain ⟨hh1, hh2⟩ := hh); (repeat' apply And.intro) <;> first | assumption | (simp only [inR]; omega) | omega | (intros; (repeat' apply And.intro) <;> first | assumption | (simp only [inR]; omega) | omega)) | (intros; (repeat' apply And.intro) <;> first | assumption | (simp only [inR]; omega) | omega | (simp_all; done) | (simp_all [inR]; omega))))
        refine hK14 _ ?_
        clear hK14
        refine W_cond (b := _) rfl (fun hc15 => ?_) (fun hc15 => ?_)
        · try simp only [decide_eq_true_eq, decide_eq_false_iff_not, ne_eq, Decidable.not_not, Bool.not_eq_true', Bool.not_eq_false', Bool.or_eq_true, Bool.and_eq_true, Bool.or_eq_false_iff, Bool.and_eq_false_iff] at hc15
          refine W_seq (fun K16 hK16 => ?_)
          refine W_region hT hG [] [4] ?_
          rw [hnt]
          simp only [baseS, eq_self, implies_true, if_true, if_false, reduceIte, Nat.reduceBEq, Nat.reduceEqDiff, Nat.reduceLT, Nat.reduceAdd, reduceCtorEq, tyInt, tdInt, maxAV, minAV]
          repeat (refine And.intro ?_ ?_; focus (first | exact ordP (by kernel_rfl) | with_reducible exact rfl | assumption | trivial | (simp only [inR]; omega) | omega | (intro hh; (try obtain ⟨hh1, hh2⟩ := hh); (repeat' apply And.intro) <;> first | assumption | (simp only [inR]; omega) | omega | (intros; (repeat' apply And.intro) <;> first | assumption | (simp only [inR]; omega) | omega)) | (intros; (repeat' apply And.intro) <;> first | assumption | (simp only [inR]; omega) | omega | (simp_all; done) | (simp_all [inR]; omega))))
          refine hK16 _ ?_
          clear hK16
          refine W_ret ?_
          simp only [thenQ, blockQ, loopQ, retQ, reduceIte, Nat.reduceEqDiff]
          refine ret0 ?_ rfl rfl (.inr rfl) rfl
          simp only [show Try.f113.results.toList = [ResultVar.tmp 4] from rfl, resAV, resL, look, Nat.reduceEqDiff, reduceIte, tyHull, tdHull, applyUps, noH, isStr, List.length_cons, List.length_nil, Nat.reduceAdd, and_self]
          all_goals (
            refine congrArg (fun x => some (AV.int x)) ?_
            unfold need; repeat (first | rfl | (exfalso; omega) | split))
        · try simp only [decide_eq_true_eq, decide_eq_false_iff_not, ne_eq, Decidable.not_not, Bool.not_eq_true', Bool.not_eq_false', Bool.or_eq_true, Bool.and_eq_true, Bool.or_eq_false_iff, Bool.and_eq_false_iff] at hc15
          refine W_seq (fun K17 hK17 => ?_)
          refine W_region hT hG [] [38] ?_
          rw [hnt]
          simp only [baseS, eq_self, implies_true, if_true, if_false, reduceIte, Nat.reduceBEq, Nat.reduceEqDiff, Nat.reduceLT, Nat.reduceAdd, reduceCtorEq, tyInt, tdInt, maxAV, minAV]
          repeat (refine And.intro ?_ ?_; focus (first | exact ordP (by kernel_rfl) | with_reducible exact rfl | assumption | trivial | (simp only [inR]; omega) | omega | (intro hh; (try obtain ⟨hh1, hh2⟩ := hh); (repeat' apply And.intro) <;> first | assumption | (simp only [inR]; omega) | omega | (intros; (repeat' apply And.intro) <;> first | assumption | (simp only [inR]; omega) | omega)) | (intros; (repeat' apply And.intro) <;> first | assumption | (simp only [inR]; omega) | omega | (simp_all; done) | (simp_all [inR]; omega))))
          refine hK17 _ ?_
          clear hK17
          refine W_cond (b := _) rfl (fun hc18 => ?_) (fun hc18 => ?_)
          · try simp only [decide_eq_true_eq, decide_eq_false_iff_not, ne_eq, Decidable.not_not, Bool.not_eq_true', Bool.not_eq_false', Bool.or_eq_true, Bool.and_eq_true, Bool.or_eq_false_iff, Bool.and_eq_false_iff] at hc18
            refine W_seq (fun K19 hK19 => ?_)
            refine W_region hT hG [] [4] ?_
            rw [hnt]
            simp only [baseS, eq_self, implies_true, if_true, if_false, reduceIte, Nat.reduceBEq, Nat.reduceEqDiff, Nat.reduceLT, Nat.reduceAdd, reduceCtorEq, tyInt, tdInt, maxAV, minAV]
            repeat (refine And.intro ?_ ?_; focus (first | exact ordP (by kernel_rfl) | with_reducible exact rfl | assumption | trivial | (simp only [inR]; omega) | omega | (intro hh; (try obtain ⟨hh1, hh2⟩ := hh); (repeat' apply And.intro) <;> first | assumption | (simp only [inR]; omega) | omega | (intros; (repeat' apply And.intro) <;> first | assumption | (simp only [inR]; omega) | omega)) | (intros; (repeat' apply And.intro) <;> first | assumption | (simp only [inR]; omega) | omega | (simp_all; done) | (simp_all [inR]; omega))))
            refine hK19 _ ?_
            clear hK19
            refine W_ret ?_
            simp only [thenQ, blockQ, loopQ, retQ, reduceIte, Nat.reduceEqDiff]
            refine ret0 ?_ rfl rfl (.inr rfl) rfl
            simp only [show Try.f113.results.toList = [ResultVar.tmp 4] from rfl, resAV, resL, look, Nat.reduceEqDiff, reduceIte, tyHull, tdHull, applyUps, noH, isStr, List.length_cons, List.length_nil, Nat.reduceAdd, and_self]
            all_goals (
              refine congrArg (fun x => some (AV.int x)) ?_
              unfold need; repeat (first | rfl | (exfalso; omega) | split))
          · try simp only [decide_eq_true_eq, decide_eq_false_iff_not, ne_eq, Decidable.not_not, Bool.not_eq_true', Bool.not_eq_false', Bool.or_eq_true, Bool.and_eq_true, Bool.or_eq_false_iff, Bool.and_eq_false_iff] at hc18
            refine W_skip ?_
            simp only [thenQ, blockQ, loopQ, reduceIte, Nat.reduceEqDiff]
            refine hK4 _ ?_
            clear hK4
            refine W_seq (fun K20 hK20 => ?_)
            refine W_region hT hG [] [4] ?_
            rw [hnt]
            simp only [baseS, eq_self, implies_true, if_true, if_false, reduceIte, Nat.reduceBEq, Nat.reduceEqDiff, Nat.reduceLT, Nat.reduceAdd, reduceCtorEq, tyInt, tdInt, maxAV, minAV]
            repeat (refine And.intro ?_ ?_; focus (first | exact ordP (by kernel_rfl) | with_reducible exact rfl | assumption | trivial | (simp only [inR]; omega) | omega | (intro hh; (try obtain ⟨hh1, hh2⟩ := hh); (repeat' apply And.intro) <;> first | assumption | (simp only [inR]; omega) | omega | (intros; (repeat' apply And.intro) <;> first | assumption | (simp only [inR]; omega) | omega)) | (intros; (repeat' apply And.intro) <;> first | assumption | (simp only [inR]; omega) | omega | (simp_all; done) | (simp_all [inR]; omega))))
            refine hK20 _ ?_
            clear hK20
            refine W_ret ?_
            simp only [thenQ, blockQ, loopQ, retQ, reduceIte, Nat.reduceEqDiff]
            refine ret0 ?_ rfl rfl (.inr rfl) rfl
            simp only [show Try.f113.results.toList = [ResultVar.tmp 4] from rfl, resAV, resL, look, Nat.reduceEqDiff, reduceIte, tyHull, tdHull, applyUps, noH, isStr, List.length_cons, List.length_nil, Nat.reduceAdd, and_self]
            all_goals (
              refine congrArg (fun x => some (AV.int x)) ?_
              unfold need; repeat (first | rfl | (exfalso; omega) | split))

end Go.Proofs.Ytjkghldkemoddaa
