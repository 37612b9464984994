/- Walk over the law laws.FnExactVoyageMoves. No condition. -/
import Derived.Test.YtehhmjnjogckeaaVoyage
import Derived.Test.YtehhmjnjogckeaaBoxLaw
namespace Go.Proofs.Ytehhmjnjogckeaa
open Go
set_option linter.unusedVariables false
set_option linter.unusedSimpArgs false

def c_laws_FnExactVoyageMoves : Ctr where
  modes := [.v .p, .v (.r .box), .v (.r .i64)]
  al := false
  run := fun xs os => match xs, os with
    | [.agg [.int b, .int r, .int t], .rs .box bs, .rs .i64 p], [] => some ⟨bs.length ≤ 9223372036854775807 ∧ p.length ≤ 9223372036854775807, .bool true, [], []⟩
    | _, _ => none
theorem m_laws_FnExactVoyageMoves : Meets Try.prog 5 c_laws_FnExactVoyageMoves := by
  refine meets_of (T := tyT) tyOK Try.func5 (by rfl) rfl (by decide) ?_
  intro args owns R hrun hpre
  simp only [c_laws_FnExactVoyageMoves] at hrun
  split at hrun
  case h_2 => cases hrun
  rename_i b r t bs p 
  cases hrun
  dsimp only at hpre
  refine ⟨_, rfl, fun E hP hnt hnp => ?_⟩
  replace hnt : E.nt = 49 := hnt
  replace hnp : E.np = 3 := hnp
  have hT : ∀ t d, tyT t = some d → TyOK E.P t d := hP ▸ tyOK
  have hG : ∀ f C, Γof [(15, c_laws_szBoxS), (17, c_laws_toHull), (18, c_laws_toBoxS), (19, c_laws_toIntS), (21, c_laws_eqBoxS), (22, c_laws_eqIntS), (25, c_spec_VoyageMoves), (26, c_impl_VoyageMoves)] f = some C → Meets E.P f C := hΓof (by rw [hP]; exact ⟨m_laws_szBoxS, m_laws_toHull, m_laws_toBoxS, m_laws_toIntS, m_laws_eqBoxS, m_laws_eqIntS, m_spec_VoyageMoves, m_impl_VoyageMoves, trivial⟩)
  try simp only [show Try.f5.ntmps = 49 from rfl]
  have hbs := hpre.1
  have hp := hpre.2
  have hz : ¬ (if (1048576 : Int) - bs.length < 0 then -1 else 1048576 - (bs.length : Int)) < 0 → bs.length ≤ 1048576 := fun h => by
    split at h <;> omega
  refine W_seq (fun K1 hK1 => ?_)
  refine W_region hT hG [] [1, 2, 3] ?_
  rw [hnt]
  simp only [baseS, eq_self, implies_true, if_true, if_false, reduceIte, Nat.reduceBEq, Nat.reduceEqDiff, Nat.reduceLT, Nat.reduceAdd, reduceCtorEq, tyInt, tdInt, tyLHull, tdLHull, tyLBoxes, tdLBoxes, tyInts, tdInts, tyHull, tdHull, tyBoxes, tdBoxes, c_laws_szBoxS, c_laws_toHull, c_laws_toBoxS, c_laws_toIntS, c_laws_eqBoxS, c_laws_eqIntS, c_spec_VoyageMoves, c_impl_VoyageMoves]
  repeat (refine And.intro ?_ ?_; focus (first | exact ordP (by kernel_rfl) | with_reducible exact rfl | trivial | assumption | (simp only [inR]; omega) | omega | (have hz1 := hz (by assumption); omega) | (have hz1 := hz (by assumption); exact ⟨by omega, by omega⟩) | exact ⟨by omega, by omega⟩ | exact ⟨by omega, by omega, by omega⟩ | (intro hh; (repeat' apply And.intro) <;> first | exact hh | omega | (have hz1 := hz (by assumption); omega))))
  refine hK1 _ ?_
  clear hK1
  refine W_seq (fun K2 hK2 => ?_)
  refine W_seq (fun K3 hK3 => ?_)
  refine W_region hT hG [] [1, 2, 3, 14] ?_
  rw [hnt]
  simp only [baseS, eq_self, implies_true, if_true, if_false, reduceIte, Nat.reduceBEq, Nat.reduceEqDiff, Nat.reduceLT, Nat.reduceAdd, reduceCtorEq, tyInt, tdInt, tyLHull, tdLHull, tyLBoxes, tdLBoxes, tyInts, tdInts, tyHull, tdHull, tyBoxes, tdBoxes, c_laws_szBoxS, c_laws_toHull, c_laws_toBoxS, c_laws_toIntS, c_laws_eqBoxS, c_laws_eqIntS, c_spec_VoyageMoves, c_impl_VoyageMoves]
  repeat (refine And.intro ?_ ?_; focus (first | exact ordP (by kernel_rfl) | with_reducible exact rfl | trivial | assumption | (simp only [inR]; omega) | omega | (have hz1 := hz (by assumption); omega) | (have hz1 := hz (by assumption); exact ⟨by omega, by omega⟩) | exact ⟨by omega, by omega⟩ | exact ⟨by omega, by omega, by omega⟩ | (intro hh; (repeat' apply And.intro) <;> first | exact hh | omega | (have hz1 := hz (by assumption); omega))))
  refine hK3 _ ?_
  clear hK3
  refine W_cond (b := _) rfl (fun hc4 => ?_) (fun hc4 => ?_)
  · try simp only [decide_eq_true_eq, decide_eq_false_iff_not, ne_eq, Decidable.not_not, Bool.not_eq_true', Bool.not_eq_false', Bool.or_eq_true, Bool.and_eq_true, Bool.or_eq_false_iff, Bool.and_eq_false_iff] at hc4
    refine W_seq (fun K5 hK5 => ?_)
    refine W_region hT hG [] [6] ?_
    rw [hnt]
    simp only [baseS, eq_self, implies_true, if_true, if_false, reduceIte, Nat.reduceBEq, Nat.reduceEqDiff, Nat.reduceLT, Nat.reduceAdd, reduceCtorEq, tyInt, tdInt, tyLHull, tdLHull, tyLBoxes, tdLBoxes, tyInts, tdInts, tyHull, tdHull, tyBoxes, tdBoxes, c_laws_szBoxS, c_laws_toHull, c_laws_toBoxS, c_laws_toIntS, c_laws_eqBoxS, c_laws_eqIntS, c_spec_VoyageMoves, c_impl_VoyageMoves]
    repeat (refine And.intro ?_ ?_; focus (first | exact ordP (by kernel_rfl) | with_reducible exact rfl | trivial | assumption | (simp only [inR]; omega) | omega | (have hz1 := hz (by assumption); omega) | (have hz1 := hz (by assumption); exact ⟨by omega, by omega⟩) | exact ⟨by omega, by omega⟩ | exact ⟨by omega, by omega, by omega⟩ | (intro hh; (repeat' apply And.intro) <;> first | exact hh | omega | (have hz1 := hz (by assumption); omega))))
    refine hK5 _ ?_
    clear hK5
    refine W_ret ?_
    simp only [thenQ, blockQ, loopQ, retQ, reduceIte, Nat.reduceEqDiff]
    refine ret0 ?_ rfl rfl (.inr rfl) rfl
    simp only [show Try.f5.results.toList = [ResultVar.tmp 6] from rfl, resAV, resL, look, Nat.reduceEqDiff, reduceIte, tyHull, tdHull, applyUps, noH, isStr, List.length_cons, List.length_nil, Nat.reduceAdd, and_self]
    all_goals (
      first | rfl | (simp_all; done))
  · try simp only [decide_eq_true_eq, decide_eq_false_iff_not, ne_eq, Decidable.not_not, Bool.not_eq_true', Bool.not_eq_false', Bool.or_eq_true, Bool.and_eq_true, Bool.or_eq_false_iff, Bool.and_eq_false_iff] at hc4
    refine W_skip ?_
    simp only [thenQ, blockQ, loopQ, reduceIte, Nat.reduceEqDiff]
    refine hK2 _ ?_
    clear hK2
    refine W_seq (fun K6 hK6 => ?_)
    refine W_region hT hG [] [1, 2, 3, 7] ?_
    rw [hnt]
    simp only [baseS, eq_self, implies_true, if_true, if_false, reduceIte, Nat.reduceBEq, Nat.reduceEqDiff, Nat.reduceLT, Nat.reduceAdd, reduceCtorEq, tyInt, tdInt, tyLHull, tdLHull, tyLBoxes, tdLBoxes, tyInts, tdInts, tyHull, tdHull, tyBoxes, tdBoxes, c_laws_szBoxS, c_laws_toHull, c_laws_toBoxS, c_laws_toIntS, c_laws_eqBoxS, c_laws_eqIntS, c_spec_VoyageMoves, c_impl_VoyageMoves]
    repeat (refine And.intro ?_ ?_; focus (first | exact ordP (by kernel_rfl) | with_reducible exact rfl | trivial | assumption | (simp only [inR]; omega) | omega | (have hz1 := hz (by assumption); omega) | (have hz1 := hz (by assumption); exact ⟨by omega, by omega⟩) | exact ⟨by omega, by omega⟩ | exact ⟨by omega, by omega, by omega⟩ | (intro hh; (repeat' apply And.intro) <;> first | exact hh | omega | (have hz1 := hz (by assumption); omega))))
    refine hK6 _ ?_
    clear hK6
    refine W_seq (fun K7 hK7 => ?_)
    refine W_region hT hG [] [1, 2, 3, 7] ?_
    rw [hnt]
    simp only [baseS, eq_self, implies_true, if_true, if_false, reduceIte, Nat.reduceBEq, Nat.reduceEqDiff, Nat.reduceLT, Nat.reduceAdd, reduceCtorEq, tyInt, tdInt, tyLHull, tdLHull, tyLBoxes, tdLBoxes, tyInts, tdInts, tyHull, tdHull, tyBoxes, tdBoxes, c_laws_szBoxS, c_laws_toHull, c_laws_toBoxS, c_laws_toIntS, c_laws_eqBoxS, c_laws_eqIntS, c_spec_VoyageMoves, c_impl_VoyageMoves]
    repeat (refine And.intro ?_ ?_; focus (first | exact ordP (by kernel_rfl) | with_reducible exact rfl | trivial | assumption | (simp only [inR]; omega) | omega | (have hz1 := hz (by assumption); omega) | (have hz1 := hz (by assumption); exact ⟨by omega, by omega⟩) | exact ⟨by omega, by omega⟩ | exact ⟨by omega, by omega, by omega⟩ | (intro hh; (repeat' apply And.intro) <;> first | exact hh | omega | (have hz1 := hz (by assumption); omega))))
    refine hK7 _ ?_
    clear hK7
    refine W_seq (fun K8 hK8 => ?_)
    refine W_seq (fun K9 hK9 => ?_)
    refine W_region hT hG [] [1, 2, 3, 19] ?_
    rw [hnt]
    simp only [baseS, eq_self, implies_true, if_true, if_false, reduceIte, Nat.reduceBEq, Nat.reduceEqDiff, Nat.reduceLT, Nat.reduceAdd, reduceCtorEq, tyInt, tdInt, tyLHull, tdLHull, tyLBoxes, tdLBoxes, tyInts, tdInts, tyHull, tdHull, tyBoxes, tdBoxes, c_laws_szBoxS, c_laws_toHull, c_laws_toBoxS, c_laws_toIntS, c_laws_eqBoxS, c_laws_eqIntS, c_spec_VoyageMoves, c_impl_VoyageMoves]
    repeat (refine And.intro ?_ ?_; focus (first | exact ordP (by kernel_rfl) | with_reducible exact rfl | trivial | assumption | (simp only [inR]; omega) | omega | (have hz1 := hz (by assumption); omega) | (have hz1 := hz (by assumption); exact ⟨by omega, by omega⟩) | exact ⟨by omega, by omega⟩ | exact ⟨by omega, by omega, by omega⟩ | (intro hh; (repeat' apply And.intro) <;> first | exact hh | omega | (have hz1 := hz (by assumption); omega))))
    refine hK9 _ ?_
    clear hK9
    refine W_cond (b := _) rfl (fun hc10 => ?_) (fun hc10 => ?_)
    · try simp only [decide_eq_true_eq, decide_eq_false_iff_not, ne_eq, Decidable.not_not, Bool.not_eq_true', Bool.not_eq_false', Bool.or_eq_true, Bool.and_eq_true, Bool.or_eq_false_iff, Bool.and_eq_false_iff] at hc10
      refine W_seq (fun K11 hK11 => ?_)
      refine W_region hT hG [] [6] ?_
      rw [hnt]
      simp only [baseS, eq_self, implies_true, if_true, if_false, reduceIte, Nat.reduceBEq, Nat.reduceEqDiff, Nat.reduceLT, Nat.reduceAdd, reduceCtorEq, tyInt, tdInt, tyLHull, tdLHull, tyLBoxes, tdLBoxes, tyInts, tdInts, tyHull, tdHull, tyBoxes, tdBoxes, c_laws_szBoxS, c_laws_toHull, c_laws_toBoxS, c_laws_toIntS, c_laws_eqBoxS, c_laws_eqIntS, c_spec_VoyageMoves, c_impl_VoyageMoves]
      repeat (refine And.intro ?_ ?_; focus (first | exact ordP (by kernel_rfl) | with_reducible exact rfl | trivial | assumption | (simp only [inR]; omega) | omega | (have hz1 := hz (by assumption); omega) | (have hz1 := hz (by assumption); exact ⟨by omega, by omega⟩) | exact ⟨by omega, by omega⟩ | exact ⟨by omega, by omega, by omega⟩ | (intro hh; (repeat' apply And.intro) <;> first | exact hh | omega | (have hz1 := hz (by assumption); omega))))
      refine hK11 _ ?_
      clear hK11
      refine W_ret ?_
      simp only [thenQ, blockQ, loopQ, retQ, reduceIte, Nat.reduceEqDiff]
      refine ret0 ?_ rfl rfl (.inr rfl) rfl
      simp only [show Try.f5.results.toList = [ResultVar.tmp 6] from rfl, resAV, resL, look, Nat.reduceEqDiff, reduceIte, tyHull, tdHull, applyUps, noH, isStr, List.length_cons, List.length_nil, Nat.reduceAdd, and_self]
      all_goals (
        first | rfl | (simp_all; done))
    · try simp only [decide_eq_true_eq, decide_eq_false_iff_not, ne_eq, Decidable.not_not, Bool.not_eq_true', Bool.not_eq_false', Bool.or_eq_true, Bool.and_eq_true, Bool.or_eq_false_iff, Bool.and_eq_false_iff] at hc10
      refine W_skip ?_
      simp only [thenQ, blockQ, loopQ, reduceIte, Nat.reduceEqDiff]
      refine hK8 _ ?_
      clear hK8
      refine W_seq (fun K12 hK12 => ?_)
      refine W_region hT hG [] [1, 2, 3, 8] ?_
      rw [hnt]
      simp only [baseS, eq_self, implies_true, if_true, if_false, reduceIte, Nat.reduceBEq, Nat.reduceEqDiff, Nat.reduceLT, Nat.reduceAdd, reduceCtorEq, tyInt, tdInt, tyLHull, tdLHull, tyLBoxes, tdLBoxes, tyInts, tdInts, tyHull, tdHull, tyBoxes, tdBoxes, c_laws_szBoxS, c_laws_toHull, c_laws_toBoxS, c_laws_toIntS, c_laws_eqBoxS, c_laws_eqIntS, c_spec_VoyageMoves, c_impl_VoyageMoves]
      repeat (refine And.intro ?_ ?_; focus (first | exact ordP (by kernel_rfl) | with_reducible exact rfl | trivial | assumption | (simp only [inR]; omega) | omega | (have hz1 := hz (by assumption); omega) | (have hz1 := hz (by assumption); exact ⟨by omega, by omega⟩) | exact ⟨by omega, by omega⟩ | exact ⟨by omega, by omega, by omega⟩ | (intro hh; (repeat' apply And.intro) <;> first | exact hh | omega | (have hz1 := hz (by assumption); omega))))
      refine hK12 _ ?_
      clear hK12
      refine W_seq (fun K13 hK13 => ?_)
      refine W_region hT hG [] [1, 2, 3, 8, 9] ?_
      rw [hnt]
      simp only [baseS, eq_self, implies_true, if_true, if_false, reduceIte, Nat.reduceBEq, Nat.reduceEqDiff, Nat.reduceLT, Nat.reduceAdd, reduceCtorEq, tyInt, tdInt, tyLHull, tdLHull, tyLBoxes, tdLBoxes, tyInts, tdInts, tyHull, tdHull, tyBoxes, tdBoxes, c_laws_szBoxS, c_laws_toHull, c_laws_toBoxS, c_laws_toIntS, c_laws_eqBoxS, c_laws_eqIntS, c_spec_VoyageMoves, c_impl_VoyageMoves]
      repeat (refine And.intro ?_ ?_; focus (first | exact ordP (by kernel_rfl) | with_reducible exact rfl | trivial | assumption | (simp only [inR]; omega) | omega | (have hz1 := hz (by assumption); omega) | (have hz1 := hz (by assumption); exact ⟨by omega, by omega⟩) | exact ⟨by omega, by omega⟩ | exact ⟨by omega, by omega, by omega⟩ | (intro hh; (repeat' apply And.intro) <;> first | exact hh | omega | (have hz1 := hz (by assumption); omega))))
      refine hK13 _ ?_
      clear hK13
      refine W_seq (fun K14 hK14 => ?_)
      refine W_region hT hG [] [1, 2, 3, 8, 9, 10] ?_
      rw [hnt]
      simp only [baseS, eq_self, implies_true, if_true, if_false, reduceIte, Nat.reduceBEq, Nat.reduceEqDiff, Nat.reduceLT, Nat.reduceAdd, reduceCtorEq, tyInt, tdInt, tyLHull, tdLHull, tyLBoxes, tdLBoxes, tyInts, tdInts, tyHull, tdHull, tyBoxes, tdBoxes, c_laws_szBoxS, c_laws_toHull, c_laws_toBoxS, c_laws_toIntS, c_laws_eqBoxS, c_laws_eqIntS, c_spec_VoyageMoves, c_impl_VoyageMoves]
      repeat (refine And.intro ?_ ?_; focus (first | exact ordP (by kernel_rfl) | with_reducible exact rfl | trivial | assumption | (simp only [inR]; omega) | omega | (have hz1 := hz (by assumption); omega) | (have hz1 := hz (by assumption); exact ⟨by omega, by omega⟩) | exact ⟨by omega, by omega⟩ | exact ⟨by omega, by omega, by omega⟩ | (intro hh; (repeat' apply And.intro) <;> first | exact hh | omega | (have hz1 := hz (by assumption); omega))))
      refine hK14 _ ?_
      clear hK14
      refine W_seq (fun K15 hK15 => ?_)
      refine W_region hT hG [] [1, 2, 8, 9, 10, 11] ?_
      rw [hnt]
      simp only [baseS, eq_self, implies_true, if_true, if_false, reduceIte, Nat.reduceBEq, Nat.reduceEqDiff, Nat.reduceLT, Nat.reduceAdd, reduceCtorEq, tyInt, tdInt, tyLHull, tdLHull, tyLBoxes, tdLBoxes, tyInts, tdInts, tyHull, tdHull, tyBoxes, tdBoxes, c_laws_szBoxS, c_laws_toHull, c_laws_toBoxS, c_laws_toIntS, c_laws_eqBoxS, c_laws_eqIntS, c_spec_VoyageMoves, c_impl_VoyageMoves]
      repeat (refine And.intro ?_ ?_; focus (first | exact ordP (by kernel_rfl) | with_reducible exact rfl | trivial | assumption | (simp only [inR]; omega) | omega | (have hz1 := hz (by assumption); omega) | (have hz1 := hz (by assumption); exact ⟨by omega, by omega⟩) | exact ⟨by omega, by omega⟩ | exact ⟨by omega, by omega, by omega⟩ | (intro hh; (repeat' apply And.intro) <;> first | exact hh | omega | (have hz1 := hz (by assumption); omega))))
      refine hK15 _ ?_
      clear hK15
      refine W_seq (fun K16 hK16 => ?_)
      refine W_seq (fun K17 hK17 => ?_)
      refine W_region hT hG [] [1, 2, 9, 10, 38] ?_
      rw [hnt]
      simp only [baseS, eq_self, implies_true, if_true, if_false, reduceIte, Nat.reduceBEq, Nat.reduceEqDiff, Nat.reduceLT, Nat.reduceAdd, reduceCtorEq, tyInt, tdInt, tyLHull, tdLHull, tyLBoxes, tdLBoxes, tyInts, tdInts, tyHull, tdHull, tyBoxes, tdBoxes, c_laws_szBoxS, c_laws_toHull, c_laws_toBoxS, c_laws_toIntS, c_laws_eqBoxS, c_laws_eqIntS, c_spec_VoyageMoves, c_impl_VoyageMoves]
      repeat (refine And.intro ?_ ?_; focus (first | exact ordP (by kernel_rfl) | with_reducible exact rfl | trivial | assumption | (simp only [inR]; omega) | omega | (have hz1 := hz (by assumption); omega) | (have hz1 := hz (by assumption); exact ⟨by omega, by omega⟩) | exact ⟨by omega, by omega⟩ | exact ⟨by omega, by omega, by omega⟩ | (intro hh; (repeat' apply And.intro) <;> first | exact hh | omega | (have hz1 := hz (by assumption); omega))))
      refine hK17 _ ?_
      clear hK17
      refine W_cond (b := _) rfl (fun hc18 => ?_) (fun hc18 => ?_)
      · try simp only [decide_eq_true_eq, decide_eq_false_iff_not, ne_eq, Decidable.not_not, Bool.not_eq_true', Bool.not_eq_false', Bool.or_eq_true, Bool.and_eq_true, Bool.or_eq_false_iff, Bool.and_eq_false_iff] at hc18
        refine W_seq (fun K19 hK19 => ?_)
        refine W_region hT hG [] [6] ?_
        rw [hnt]
        simp only [baseS, eq_self, implies_true, if_true, if_false, reduceIte, Nat.reduceBEq, Nat.reduceEqDiff, Nat.reduceLT, Nat.reduceAdd, reduceCtorEq, tyInt, tdInt, tyLHull, tdLHull, tyLBoxes, tdLBoxes, tyInts, tdInts, tyHull, tdHull, tyBoxes, tdBoxes, c_laws_szBoxS, c_laws_toHull, c_laws_toBoxS, c_laws_toIntS, c_laws_eqBoxS, c_laws_eqIntS, c_spec_VoyageMoves, c_impl_VoyageMoves]
        repeat (refine And.intro ?_ ?_; focus (first | exact ordP (by kernel_rfl) | with_reducible exact rfl | trivial | assumption | (simp only [inR]; omega) | omega | (have hz1 := hz (by assumption); omega) | (have hz1 := hz (by assumption); exact ⟨by omega, by omega⟩) | exact ⟨by omega, by omega⟩ | exact ⟨by omega, by omega, by omega⟩ | (intro hh; (repeat' apply And.intro) <;> first | exact hh | omega | (have hz1 := hz (by assumption); omega))))
        refine hK19 _ ?_
        clear hK19
        refine W_ret ?_
        simp only [thenQ, blockQ, loopQ, retQ, reduceIte, Nat.reduceEqDiff]
        refine ret0 ?_ rfl rfl (.inr rfl) rfl
        simp only [show Try.f5.results.toList = [ResultVar.tmp 6] from rfl, resAV, resL, look, Nat.reduceEqDiff, reduceIte, tyHull, tdHull, applyUps, noH, isStr, List.length_cons, List.length_nil, Nat.reduceAdd, and_self]
        all_goals (
          first | rfl | (simp_all; done))
      · try simp only [decide_eq_true_eq, decide_eq_false_iff_not, ne_eq, Decidable.not_not, Bool.not_eq_true', Bool.not_eq_false', Bool.or_eq_true, Bool.and_eq_true, Bool.or_eq_false_iff, Bool.and_eq_false_iff] at hc18
        refine W_skip ?_
        simp only [thenQ, blockQ, loopQ, reduceIte, Nat.reduceEqDiff]
        refine hK16 _ ?_
        clear hK16
        refine W_seq (fun K20 hK20 => ?_)
        refine W_seq (fun K21 hK21 => ?_)
        refine W_region hT hG [] [2, 10, 43] ?_
        rw [hnt]
        simp only [baseS, eq_self, implies_true, if_true, if_false, reduceIte, Nat.reduceBEq, Nat.reduceEqDiff, Nat.reduceLT, Nat.reduceAdd, reduceCtorEq, tyInt, tdInt, tyLHull, tdLHull, tyLBoxes, tdLBoxes, tyInts, tdInts, tyHull, tdHull, tyBoxes, tdBoxes, c_laws_szBoxS, c_laws_toHull, c_laws_toBoxS, c_laws_toIntS, c_laws_eqBoxS, c_laws_eqIntS, c_spec_VoyageMoves, c_impl_VoyageMoves]
        repeat (refine And.intro ?_ ?_; focus (first | exact ordP (by kernel_rfl) | with_reducible exact rfl | trivial | assumption | (simp only [inR]; omega) | omega | (have hz1 := hz (by assumption); omega) | (have hz1 := hz (by assumption); exact ⟨by omega, by omega⟩) | exact ⟨by omega, by omega⟩ | exact ⟨by omega, by omega, by omega⟩ | (intro hh; (repeat' apply And.intro) <;> first | exact hh | omega | (have hz1 := hz (by assumption); omega))))
        refine hK21 _ ?_
        clear hK21
        refine W_cond (b := _) rfl (fun hc22 => ?_) (fun hc22 => ?_)
        · try simp only [decide_eq_true_eq, decide_eq_false_iff_not, ne_eq, Decidable.not_not, Bool.not_eq_true', Bool.not_eq_false', Bool.or_eq_true, Bool.and_eq_true, Bool.or_eq_false_iff, Bool.and_eq_false_iff] at hc22
          refine W_seq (fun K23 hK23 => ?_)
          refine W_region hT hG [] [6] ?_
          rw [hnt]
          simp only [baseS, eq_self, implies_true, if_true, if_false, reduceIte, Nat.reduceBEq, Nat.reduceEqDiff, Nat.reduceLT, Nat.reduceAdd, reduceCtorEq, tyInt, tdInt, tyLHull, tdLHull, tyLBoxes, tdLBoxes, tyInts, tdInts, tyHull, tdHull, tyBoxes, tdBoxes, c_laws_szBoxS, c_laws_toHull, c_laws_toBoxS, c_laws_toIntS, c_laws_eqBoxS, c_laws_eqIntS, c_spec_VoyageMoves, c_impl_VoyageMoves]
          repeat (refine And.intro ?_ ?_; focus (first | exact ordP (by kernel_rfl) | with_reducible exact rfl | trivial | assumption | (simp only [inR]; omega) | omega | (have hz1 := hz (by assumption); omega) | (have hz1 := hz (by assumption); exact ⟨by omega, by omega⟩) | exact ⟨by omega, by omega⟩ | exact ⟨by omega, by omega, by omega⟩ | (intro hh; (repeat' apply And.intro) <;> first | exact hh | omega | (have hz1 := hz (by assumption); omega))))
          refine hK23 _ ?_
          clear hK23
          refine W_ret ?_
          simp only [thenQ, blockQ, loopQ, retQ, reduceIte, Nat.reduceEqDiff]
          refine ret0 ?_ rfl rfl (.inr rfl) rfl
          simp only [show Try.f5.results.toList = [ResultVar.tmp 6] from rfl, resAV, resL, look, Nat.reduceEqDiff, reduceIte, tyHull, tdHull, applyUps, noH, isStr, List.length_cons, List.length_nil, Nat.reduceAdd, and_self]
          all_goals (
            first | rfl | (simp_all; done))
        · try simp only [decide_eq_true_eq, decide_eq_false_iff_not, ne_eq, Decidable.not_not, Bool.not_eq_true', Bool.not_eq_false', Bool.or_eq_true, Bool.and_eq_true, Bool.or_eq_false_iff, Bool.and_eq_false_iff] at hc22
          refine W_skip ?_
          simp only [thenQ, blockQ, loopQ, reduceIte, Nat.reduceEqDiff]
          refine hK20 _ ?_
          clear hK20
          refine W_seq (fun K24 hK24 => ?_)
          refine W_seq (fun K25 hK25 => ?_)
          refine W_region hT hG [] [48] ?_
          rw [hnt]
          simp only [baseS, eq_self, implies_true, if_true, if_false, reduceIte, Nat.reduceBEq, Nat.reduceEqDiff, Nat.reduceLT, Nat.reduceAdd, reduceCtorEq, tyInt, tdInt, tyLHull, tdLHull, tyLBoxes, tdLBoxes, tyInts, tdInts, tyHull, tdHull, tyBoxes, tdBoxes, c_laws_szBoxS, c_laws_toHull, c_laws_toBoxS, c_laws_toIntS, c_laws_eqBoxS, c_laws_eqIntS, c_spec_VoyageMoves, c_impl_VoyageMoves]
          repeat (refine And.intro ?_ ?_; focus (first | exact ordP (by kernel_rfl) | with_reducible exact rfl | trivial | assumption | (simp only [inR]; omega) | omega | (have hz1 := hz (by assumption); omega) | (have hz1 := hz (by assumption); exact ⟨by omega, by omega⟩) | exact ⟨by omega, by omega⟩ | exact ⟨by omega, by omega, by omega⟩ | (intro hh; (repeat' apply And.intro) <;> first | exact hh | omega | (have hz1 := hz (by assumption); omega))))
          refine hK25 _ ?_
          clear hK25
          refine W_cond (b := _) rfl (fun hc26 => ?_) (fun hc26 => ?_)
          · try simp only [decide_eq_true_eq, decide_eq_false_iff_not, ne_eq, Decidable.not_not, Bool.not_eq_true', Bool.not_eq_false', Bool.or_eq_true, Bool.and_eq_true, Bool.or_eq_false_iff, Bool.and_eq_false_iff] at hc26
            refine W_seq (fun K27 hK27 => ?_)
            refine W_region hT hG [] [6] ?_
            rw [hnt]
            simp only [baseS, eq_self, implies_true, if_true, if_false, reduceIte, Nat.reduceBEq, Nat.reduceEqDiff, Nat.reduceLT, Nat.reduceAdd, reduceCtorEq, tyInt, tdInt, tyLHull, tdLHull, tyLBoxes, tdLBoxes, tyInts, tdInts, tyHull, tdHull, tyBoxes, tdBoxes, c_laws_szBoxS, c_laws_toHull, c_laws_toBoxS, c_laws_toIntS, c_laws_eqBoxS, c_laws_eqIntS, c_spec_VoyageMoves, c_impl_VoyageMoves]
            repeat (refine And.intro ?_ ?_; focus (first | exact ordP (by kernel_rfl) | with_reducible exact rfl | trivial | assumption | (simp only [inR]; omega) | omega | (have hz1 := hz (by assumption); omega) | (have hz1 := hz (by assumption); exact ⟨by omega, by omega⟩) | exact ⟨by omega, by omega⟩ | exact ⟨by omega, by omega, by omega⟩ | (intro hh; (repeat' apply And.intro) <;> first | exact hh | omega | (have hz1 := hz (by assumption); omega))))
            refine hK27 _ ?_
            clear hK27
            refine W_ret ?_
            simp only [thenQ, blockQ, loopQ, retQ, reduceIte, Nat.reduceEqDiff]
            refine ret0 ?_ rfl rfl (.inr rfl) rfl
            simp only [show Try.f5.results.toList = [ResultVar.tmp 6] from rfl, resAV, resL, look, Nat.reduceEqDiff, reduceIte, tyHull, tdHull, applyUps, noH, isStr, List.length_cons, List.length_nil, Nat.reduceAdd, and_self]
            all_goals (
              first | rfl | (simp_all; done))
          · try simp only [decide_eq_true_eq, decide_eq_false_iff_not, ne_eq, Decidable.not_not, Bool.not_eq_true', Bool.not_eq_false', Bool.or_eq_true, Bool.and_eq_true, Bool.or_eq_false_iff, Bool.and_eq_false_iff] at hc26
            refine W_skip ?_
            simp only [thenQ, blockQ, loopQ, reduceIte, Nat.reduceEqDiff]
            refine hK24 _ ?_
            clear hK24
            refine W_seq (fun K28 hK28 => ?_)
            refine W_region hT hG [] [6] ?_
            rw [hnt]
            simp only [baseS, eq_self, implies_true, if_true, if_false, reduceIte, Nat.reduceBEq, Nat.reduceEqDiff, Nat.reduceLT, Nat.reduceAdd, reduceCtorEq, tyInt, tdInt, tyLHull, tdLHull, tyLBoxes, tdLBoxes, tyInts, tdInts, tyHull, tdHull, tyBoxes, tdBoxes, c_laws_szBoxS, c_laws_toHull, c_laws_toBoxS, c_laws_toIntS, c_laws_eqBoxS, c_laws_eqIntS, c_spec_VoyageMoves, c_impl_VoyageMoves]
            repeat (refine And.intro ?_ ?_; focus (first | exact ordP (by kernel_rfl) | with_reducible exact rfl | trivial | assumption | (simp only [inR]; omega) | omega | (have hz1 := hz (by assumption); omega) | (have hz1 := hz (by assumption); exact ⟨by omega, by omega⟩) | exact ⟨by omega, by omega⟩ | exact ⟨by omega, by omega, by omega⟩ | (intro hh; (repeat' apply And.intro) <;> first | exact hh | omega | (have hz1 := hz (by assumption); omega))))
            refine hK28 _ ?_
            clear hK28
            refine W_ret ?_
            simp only [thenQ, blockQ, loopQ, retQ, reduceIte, Nat.reduceEqDiff]
            refine ret0 ?_ rfl rfl (.inr rfl) rfl
            simp only [show Try.f5.results.toList = [ResultVar.tmp 6] from rfl, resAV, resL, look, Nat.reduceEqDiff, reduceIte, tyHull, tdHull, applyUps, noH, isStr, List.length_cons, List.length_nil, Nat.reduceAdd, and_self]
            all_goals (
              first | rfl | (simp_all; done))

end Go.Proofs.Ytehhmjnjogckeaa
