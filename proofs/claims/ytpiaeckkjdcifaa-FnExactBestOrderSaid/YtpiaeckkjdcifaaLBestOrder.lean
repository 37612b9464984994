/- Walk over the law laws.FnExactBestOrder. No condition. -/
import Derived.Test.YtpiaeckkjdcifaaBestE
import Derived.Test.YtpiaeckkjdcifaaSpecB
import Derived.Test.YtpiaeckkjdcifaaMarkBox
namespace Go.Proofs.Ytpiaeckkjdcifaa
open Go
set_option linter.unusedVariables false
set_option linter.unusedSimpArgs false

def c_laws_FnExactBestOrder : Ctr where
  modes := [.v .p, .v (.r .box), .v (.r .i64)]
  al := false
  run := fun xs os => match xs, os with
    | [.agg [.int b, .int r, .int t], .rs .box bs, .rs .i64 p], [] => some ⟨bs.length ≤ 9223372036854775807 ∧ p.length ≤ 9223372036854775807, .bool true, [], []⟩
    | _, _ => none
theorem m_laws_FnExactBestOrder : Meets Try.prog 10 c_laws_FnExactBestOrder := by
  refine meets_of (T := tyT) tyOK Try.func10 (by rfl) rfl (by decide) ?_
  intro args owns R hrun hpre
  simp only [c_laws_FnExactBestOrder] at hrun
  split at hrun
  case h_2 => cases hrun
  rename_i b r t bs p 
  cases hrun
  try dsimp only at hpre
  refine ⟨_, rfl, fun E hP hnt hnp => ?_⟩
  replace hnt : E.nt = 125 := hnt
  replace hnp : E.np = 3 := hnp
  have hT : ∀ t d, tyT t = some d → TyOK E.P t d := hP ▸ tyOK
  have hG : ∀ f C, Γof [(25, c_laws_toIntS), (26, c_laws_eqIntS), (29, c_laws_markIntS), (30, c_laws_heldIntS), (31, c_laws_szBoxS), (33, c_laws_toHull), (34, c_laws_toBoxS), (36, c_laws_eqBoxS), (37, c_laws_markBoxS), (50, c_spec_BestOrder), (51, c_impl_BestOrder)] f = some C → Meets E.P f C := hΓof (by rw [hP]; exact ⟨m_laws_toIntS, m_laws_eqIntS, m_laws_markIntS, m_laws_heldIntS, m_laws_szBoxS, m_laws_toHull, m_laws_toBoxS, m_laws_eqBoxS, m_laws_markBoxS, m_spec_BestOrder, m_impl_BestOrder, trivial⟩)
  try simp only [show Try.f10.ntmps = 125 from rfl]
  have hbs := hpre.1
  have hp := hpre.2
  have hz : ¬ (if (1048576 : Int) - bs.length < 0 then -1 else 1048576 - (bs.length : Int)) < 0 → bs.length ≤ 1048576 := fun h => by
    split at h <;> omega
  have hres := bestR_len b r t bs p
  have hfl := fullS_len p
  refine W_seq (fun K1 hK1 => ?_)
  refine W_region hT hG [] [1, 2, 3] ?_
  rw [hnt]
  simp only [baseS, eq_self, implies_true, if_true, if_false, reduceIte, Nat.reduceBEq, Nat.reduceEqDiff, Nat.reduceLT, Nat.reduceAdd, reduceCtorEq, tyInt, tdInt, tyBool, tdBool, tyInts, tdInts, tyLHull, tdLHull, tyLBoxes, tdLBoxes, tyHull, tdHull, tyBoxes, tdBoxes, c_laws_toIntS, c_laws_eqIntS, c_laws_markIntS, c_laws_heldIntS, c_laws_szBoxS, c_laws_toHull, c_laws_toBoxS, c_laws_eqBoxS, c_laws_markBoxS, c_spec_BestOrder, c_impl_BestOrder, heldF_mark, markL_len, bne_self_eq_false, best_eq, bestOK]
  repeat (refine And.intro ?_ ?_; focus (first | exact ordP (by kernel_rfl) | with_reducible exact rfl | trivial | assumption | (simp only [inR]; omega) | omega | (have hz1 := hz (by assumption); omega) | (have hz1 := hz (by assumption); exact ⟨by omega, by omega⟩) | exact ⟨by omega, by omega⟩ | exact ⟨by omega, by omega, by omega⟩ | (intro hh; (repeat' apply And.intro) <;> first | exact hh | omega | (have hz1 := hz (by assumption); omega))))
  refine hK1 _ ?_
  clear hK1
  refine W_seq (fun K2 hK2 => ?_)
  refine W_seq (fun K3 hK3 => ?_)
  refine W_region hT hG [] [1, 2, 3, 21] ?_
  rw [hnt]
  simp only [baseS, eq_self, implies_true, if_true, if_false, reduceIte, Nat.reduceBEq, Nat.reduceEqDiff, Nat.reduceLT, Nat.reduceAdd, reduceCtorEq, tyInt, tdInt, tyBool, tdBool, tyInts, tdInts, tyLHull, tdLHull, tyLBoxes, tdLBoxes, tyHull, tdHull, tyBoxes, tdBoxes, c_laws_toIntS, c_laws_eqIntS, c_laws_markIntS, c_laws_heldIntS, c_laws_szBoxS, c_laws_toHull, c_laws_toBoxS, c_laws_eqBoxS, c_laws_markBoxS, c_spec_BestOrder, c_impl_BestOrder, heldF_mark, markL_len, bne_self_eq_false, best_eq, bestOK]
  repeat (refine And.intro ?_ ?_; focus (first | exact ordP (by kernel_rfl) | with_reducible exact rfl | trivial | assumption | (simp only [inR]; omega) | omega | (have hz1 := hz (by assumption); omega) | (have hz1 := hz (by assumption); exact ⟨by omega, by omega⟩) | exact ⟨by omega, by omega⟩ | exact ⟨by omega, by omega, by omega⟩ | (intro hh; (repeat' apply And.intro) <;> first | exact hh | omega | (have hz1 := hz (by assumption); omega))))
  refine hK3 _ ?_
  clear hK3
  refine W_cond (b := _) rfl (fun hc4 => ?_) (fun hc4 => ?_)
  · try simp only [decide_eq_true_eq, decide_eq_false_iff_not, ne_eq, Decidable.not_not, Bool.not_eq_true', Bool.not_eq_false', Bool.or_eq_true, Bool.and_eq_true, Bool.or_eq_false_iff, Bool.and_eq_false_iff] at hc4
    refine W_seq (fun K5 hK5 => ?_)
    refine W_region hT hG [] [6] ?_
    rw [hnt]
    simp only [baseS, eq_self, implies_true, if_true, if_false, reduceIte, Nat.reduceBEq, Nat.reduceEqDiff, Nat.reduceLT, Nat.reduceAdd, reduceCtorEq, tyInt, tdInt, tyBool, tdBool, tyInts, tdInts, tyLHull, tdLHull, tyLBoxes, tdLBoxes, tyHull, tdHull, tyBoxes, tdBoxes, c_laws_toIntS, c_laws_eqIntS, c_laws_markIntS, c_laws_heldIntS, c_laws_szBoxS, c_laws_toHull, c_laws_toBoxS, c_laws_eqBoxS, c_laws_markBoxS, c_spec_BestOrder, c_impl_BestOrder, heldF_mark, markL_len, bne_self_eq_false, best_eq, bestOK]
    repeat (refine And.intro ?_ ?_; focus (first | exact ordP (by kernel_rfl) | with_reducible exact rfl | trivial | assumption | (simp only [inR]; omega) | omega | (have hz1 := hz (by assumption); omega) | (have hz1 := hz (by assumption); exact ⟨by omega, by omega⟩) | exact ⟨by omega, by omega⟩ | exact ⟨by omega, by omega, by omega⟩ | (intro hh; (repeat' apply And.intro) <;> first | exact hh | omega | (have hz1 := hz (by assumption); omega))))
    refine hK5 _ ?_
    clear hK5
    refine W_ret ?_
    simp only [thenQ, blockQ, loopQ, retQ, reduceIte, Nat.reduceEqDiff]
    refine ret0 ?_ rfl rfl (.inr rfl) rfl
    simp only [show Try.f10.results.toList = [ResultVar.tmp 6] from rfl, resAV, resL, look, Nat.reduceEqDiff, reduceIte, tyHull, tdHull, applyUps, noH, isStr, List.length_cons, List.length_nil, Nat.reduceAdd, and_self]
    all_goals (
      first | rfl | (exfalso; omega) | (simp_all; done))
  · try simp only [decide_eq_true_eq, decide_eq_false_iff_not, ne_eq, Decidable.not_not, Bool.not_eq_true', Bool.not_eq_false', Bool.or_eq_true, Bool.and_eq_true, Bool.or_eq_false_iff, Bool.and_eq_false_iff] at hc4
    refine W_skip ?_
    simp only [thenQ, blockQ, loopQ, reduceIte, Nat.reduceEqDiff]
    refine hK2 _ ?_
    clear hK2
    refine W_seq (fun K6 hK6 => ?_)
    refine W_region hT hG [] [1, 2, 3, 7] ?_
    rw [hnt]
    simp only [baseS, eq_self, implies_true, if_true, if_false, reduceIte, Nat.reduceBEq, Nat.reduceEqDiff, Nat.reduceLT, Nat.reduceAdd, reduceCtorEq, tyInt, tdInt, tyBool, tdBool, tyInts, tdInts, tyLHull, tdLHull, tyLBoxes, tdLBoxes, tyHull, tdHull, tyBoxes, tdBoxes, c_laws_toIntS, c_laws_eqIntS, c_laws_markIntS, c_laws_heldIntS, c_laws_szBoxS, c_laws_toHull, c_laws_toBoxS, c_laws_eqBoxS, c_laws_markBoxS, c_spec_BestOrder, c_impl_BestOrder, heldF_mark, markL_len, bne_self_eq_false, best_eq, bestOK]
    repeat (refine And.intro ?_ ?_; focus (first | exact ordP (by kernel_rfl) | with_reducible exact rfl | trivial | assumption | (simp only [inR]; omega) | omega | (have hz1 := hz (by assumption); omega) | (have hz1 := hz (by assumption); exact ⟨by omega, by omega⟩) | exact ⟨by omega, by omega⟩ | exact ⟨by omega, by omega, by omega⟩ | (intro hh; (repeat' apply And.intro) <;> first | exact hh | omega | (have hz1 := hz (by assumption); omega))))
    refine hK6 _ ?_
    clear hK6
    refine W_seq (fun K7 hK7 => ?_)
    refine W_region hT hG [] [1, 2, 3, 7] ?_
    rw [hnt]
    simp only [baseS, eq_self, implies_true, if_true, if_false, reduceIte, Nat.reduceBEq, Nat.reduceEqDiff, Nat.reduceLT, Nat.reduceAdd, reduceCtorEq, tyInt, tdInt, tyBool, tdBool, tyInts, tdInts, tyLHull, tdLHull, tyLBoxes, tdLBoxes, tyHull, tdHull, tyBoxes, tdBoxes, c_laws_toIntS, c_laws_eqIntS, c_laws_markIntS, c_laws_heldIntS, c_laws_szBoxS, c_laws_toHull, c_laws_toBoxS, c_laws_eqBoxS, c_laws_markBoxS, c_spec_BestOrder, c_impl_BestOrder, heldF_mark, markL_len, bne_self_eq_false, best_eq, bestOK]
    repeat (refine And.intro ?_ ?_; focus (first | exact ordP (by kernel_rfl) | with_reducible exact rfl | trivial | assumption | (simp only [inR]; omega) | omega | (have hz1 := hz (by assumption); omega) | (have hz1 := hz (by assumption); exact ⟨by omega, by omega⟩) | exact ⟨by omega, by omega⟩ | exact ⟨by omega, by omega, by omega⟩ | (intro hh; (repeat' apply And.intro) <;> first | exact hh | omega | (have hz1 := hz (by assumption); omega))))
    refine hK7 _ ?_
    clear hK7
    refine W_seq (fun K8 hK8 => ?_)
    refine W_seq (fun K9 hK9 => ?_)
    refine W_region hT hG [] [1, 2, 3, 26] ?_
    rw [hnt]
    simp only [baseS, eq_self, implies_true, if_true, if_false, reduceIte, Nat.reduceBEq, Nat.reduceEqDiff, Nat.reduceLT, Nat.reduceAdd, reduceCtorEq, tyInt, tdInt, tyBool, tdBool, tyInts, tdInts, tyLHull, tdLHull, tyLBoxes, tdLBoxes, tyHull, tdHull, tyBoxes, tdBoxes, c_laws_toIntS, c_laws_eqIntS, c_laws_markIntS, c_laws_heldIntS, c_laws_szBoxS, c_laws_toHull, c_laws_toBoxS, c_laws_eqBoxS, c_laws_markBoxS, c_spec_BestOrder, c_impl_BestOrder, heldF_mark, markL_len, bne_self_eq_false, best_eq, bestOK]
    repeat (refine And.intro ?_ ?_; focus (first | exact ordP (by kernel_rfl) | with_reducible exact rfl | trivial | assumption | (simp only [inR]; omega) | omega | (have hz1 := hz (by assumption); omega) | (have hz1 := hz (by assumption); exact ⟨by omega, by omega⟩) | exact ⟨by omega, by omega⟩ | exact ⟨by omega, by omega, by omega⟩ | (intro hh; (repeat' apply And.intro) <;> first | exact hh | omega | (have hz1 := hz (by assumption); omega))))
    refine hK9 _ ?_
    clear hK9
    refine W_cond (b := _) rfl (fun hc10 => ?_) (fun hc10 => ?_)
    · try simp only [decide_eq_true_eq, decide_eq_false_iff_not, ne_eq, Decidable.not_not, Bool.not_eq_true', Bool.not_eq_false', Bool.or_eq_true, Bool.and_eq_true, Bool.or_eq_false_iff, Bool.and_eq_false_iff] at hc10
      refine W_seq (fun K11 hK11 => ?_)
      refine W_region hT hG [] [6] ?_
      rw [hnt]
      simp only [baseS, eq_self, implies_true, if_true, if_false, reduceIte, Nat.reduceBEq, Nat.reduceEqDiff, Nat.reduceLT, Nat.reduceAdd, reduceCtorEq, tyInt, tdInt, tyBool, tdBool, tyInts, tdInts, tyLHull, tdLHull, tyLBoxes, tdLBoxes, tyHull, tdHull, tyBoxes, tdBoxes, c_laws_toIntS, c_laws_eqIntS, c_laws_markIntS, c_laws_heldIntS, c_laws_szBoxS, c_laws_toHull, c_laws_toBoxS, c_laws_eqBoxS, c_laws_markBoxS, c_spec_BestOrder, c_impl_BestOrder, heldF_mark, markL_len, bne_self_eq_false, best_eq, bestOK]
      repeat (refine And.intro ?_ ?_; focus (first | exact ordP (by kernel_rfl) | with_reducible exact rfl | trivial | assumption | (simp only [inR]; omega) | omega | (have hz1 := hz (by assumption); omega) | (have hz1 := hz (by assumption); exact ⟨by omega, by omega⟩) | exact ⟨by omega, by omega⟩ | exact ⟨by omega, by omega, by omega⟩ | (intro hh; (repeat' apply And.intro) <;> first | exact hh | omega | (have hz1 := hz (by assumption); omega))))
      refine hK11 _ ?_
      clear hK11
      refine W_ret ?_
      simp only [thenQ, blockQ, loopQ, retQ, reduceIte, Nat.reduceEqDiff]
      refine ret0 ?_ rfl rfl (.inr rfl) rfl
      simp only [show Try.f10.results.toList = [ResultVar.tmp 6] from rfl, resAV, resL, look, Nat.reduceEqDiff, reduceIte, tyHull, tdHull, applyUps, noH, isStr, List.length_cons, List.length_nil, Nat.reduceAdd, and_self]
      all_goals (
        first | rfl | (exfalso; omega) | (simp_all; done))
    · try simp only [decide_eq_true_eq, decide_eq_false_iff_not, ne_eq, Decidable.not_not, Bool.not_eq_true', Bool.not_eq_false', Bool.or_eq_true, Bool.and_eq_true, Bool.or_eq_false_iff, Bool.and_eq_false_iff] at hc10
      refine W_skip ?_
      simp only [thenQ, blockQ, loopQ, reduceIte, Nat.reduceEqDiff]
      refine hK8 _ ?_
      clear hK8
      refine W_seq (fun K12 hK12 => ?_)
      refine W_region hT hG [] [1, 2, 3, 8, 9] ?_
      rw [hnt]
      simp only [baseS, eq_self, implies_true, if_true, if_false, reduceIte, Nat.reduceBEq, Nat.reduceEqDiff, Nat.reduceLT, Nat.reduceAdd, reduceCtorEq, tyInt, tdInt, tyBool, tdBool, tyInts, tdInts, tyLHull, tdLHull, tyLBoxes, tdLBoxes, tyHull, tdHull, tyBoxes, tdBoxes, c_laws_toIntS, c_laws_eqIntS, c_laws_markIntS, c_laws_heldIntS, c_laws_szBoxS, c_laws_toHull, c_laws_toBoxS, c_laws_eqBoxS, c_laws_markBoxS, c_spec_BestOrder, c_impl_BestOrder, heldF_mark, markL_len, bne_self_eq_false, best_eq, bestOK]
      repeat (refine And.intro ?_ ?_; focus (first | exact ordP (by kernel_rfl) | with_reducible exact rfl | trivial | assumption | (simp only [inR]; omega) | omega | (have hz1 := hz (by assumption); omega) | (have hz1 := hz (by assumption); exact ⟨by omega, by omega⟩) | exact ⟨by omega, by omega⟩ | exact ⟨by omega, by omega, by omega⟩ | (intro hh; (repeat' apply And.intro) <;> first | exact hh | omega | (have hz1 := hz (by assumption); omega))))
      refine hK12 _ ?_
      clear hK12
      refine W_seq (fun K13 hK13 => ?_)
      refine W_region hT hG [] [1, 2, 3, 8, 9, 10] ?_
      rw [hnt]
      simp only [baseS, eq_self, implies_true, if_true, if_false, reduceIte, Nat.reduceBEq, Nat.reduceEqDiff, Nat.reduceLT, Nat.reduceAdd, reduceCtorEq, tyInt, tdInt, tyBool, tdBool, tyInts, tdInts, tyLHull, tdLHull, tyLBoxes, tdLBoxes, tyHull, tdHull, tyBoxes, tdBoxes, c_laws_toIntS, c_laws_eqIntS, c_laws_markIntS, c_laws_heldIntS, c_laws_szBoxS, c_laws_toHull, c_laws_toBoxS, c_laws_eqBoxS, c_laws_markBoxS, c_spec_BestOrder, c_impl_BestOrder, heldF_mark, markL_len, bne_self_eq_false, best_eq, bestOK]
      repeat (refine And.intro ?_ ?_; focus (first | exact ordP (by kernel_rfl) | with_reducible exact rfl | trivial | assumption | (simp only [inR]; omega) | omega | (have hz1 := hz (by assumption); omega) | (have hz1 := hz (by assumption); exact ⟨by omega, by omega⟩) | exact ⟨by omega, by omega⟩ | exact ⟨by omega, by omega, by omega⟩ | (intro hh; (repeat' apply And.intro) <;> first | exact hh | omega | (have hz1 := hz (by assumption); omega))))
      refine hK13 _ ?_
      clear hK13
      refine W_seq (fun K14 hK14 => ?_)
      refine W_region hT hG [] [1, 2, 3, 8, 9, 10, 11] ?_
      rw [hnt]
      simp only [baseS, eq_self, implies_true, if_true, if_false, reduceIte, Nat.reduceBEq, Nat.reduceEqDiff, Nat.reduceLT, Nat.reduceAdd, reduceCtorEq, tyInt, tdInt, tyBool, tdBool, tyInts, tdInts, tyLHull, tdLHull, tyLBoxes, tdLBoxes, tyHull, tdHull, tyBoxes, tdBoxes, c_laws_toIntS, c_laws_eqIntS, c_laws_markIntS, c_laws_heldIntS, c_laws_szBoxS, c_laws_toHull, c_laws_toBoxS, c_laws_eqBoxS, c_laws_markBoxS, c_spec_BestOrder, c_impl_BestOrder, heldF_mark, markL_len, bne_self_eq_false, best_eq, bestOK]
      repeat (refine And.intro ?_ ?_; focus (first | exact ordP (by kernel_rfl) | with_reducible exact rfl | trivial | assumption | (simp only [inR]; omega) | omega | (have hz1 := hz (by assumption); omega) | (have hz1 := hz (by assumption); exact ⟨by omega, by omega⟩) | exact ⟨by omega, by omega⟩ | exact ⟨by omega, by omega, by omega⟩ | (intro hh; (repeat' apply And.intro) <;> first | exact hh | omega | (have hz1 := hz (by assumption); omega))))
      refine hK14 _ ?_
      clear hK14
      refine W_seq (fun K15 hK15 => ?_)
      refine W_region hT hG [] [1, 2, 3, 8, 9, 10, 11, 12, 13] ?_
      rw [hnt]
      simp only [baseS, eq_self, implies_true, if_true, if_false, reduceIte, Nat.reduceBEq, Nat.reduceEqDiff, Nat.reduceLT, Nat.reduceAdd, reduceCtorEq, tyInt, tdInt, tyBool, tdBool, tyInts, tdInts, tyLHull, tdLHull, tyLBoxes, tdLBoxes, tyHull, tdHull, tyBoxes, tdBoxes, c_laws_toIntS, c_laws_eqIntS, c_laws_markIntS, c_laws_heldIntS, c_laws_szBoxS, c_laws_toHull, c_laws_toBoxS, c_laws_eqBoxS, c_laws_markBoxS, c_spec_BestOrder, c_impl_BestOrder, heldF_mark, markL_len, bne_self_eq_false, best_eq, bestOK]
      repeat (refine And.intro ?_ ?_; focus (first | exact ordP (by kernel_rfl) | with_reducible exact rfl | trivial | assumption | (simp only [inR]; omega) | omega | (have hz1 := hz (by assumption); omega) | (have hz1 := hz (by assumption); exact ⟨by omega, by omega⟩) | exact ⟨by omega, by omega⟩ | exact ⟨by omega, by omega, by omega⟩ | (intro hh; (repeat' apply And.intro) <;> first | exact hh | omega | (have hz1 := hz (by assumption); omega))))
      refine hK15 _ ?_
      clear hK15
      refine W_seq (fun K16 hK16 => ?_)
      refine W_seq (fun K17 hK17 => ?_)
      refine W_region hT hG [] [1, 2, 3, 8, 9, 10, 11, 12, 13, 57] ?_
      rw [hnt]
      simp only [baseS, eq_self, implies_true, if_true, if_false, reduceIte, Nat.reduceBEq, Nat.reduceEqDiff, Nat.reduceLT, Nat.reduceAdd, reduceCtorEq, tyInt, tdInt, tyBool, tdBool, tyInts, tdInts, tyLHull, tdLHull, tyLBoxes, tdLBoxes, tyHull, tdHull, tyBoxes, tdBoxes, c_laws_toIntS, c_laws_eqIntS, c_laws_markIntS, c_laws_heldIntS, c_laws_szBoxS, c_laws_toHull, c_laws_toBoxS, c_laws_eqBoxS, c_laws_markBoxS, c_spec_BestOrder, c_impl_BestOrder, heldF_mark, markL_len, bne_self_eq_false, best_eq, bestOK]
      repeat (refine And.intro ?_ ?_; focus (first | exact ordP (by kernel_rfl) | with_reducible exact rfl | trivial | assumption | (simp only [inR]; omega) | omega | (have hz1 := hz (by assumption); omega) | (have hz1 := hz (by assumption); exact ⟨by omega, by omega⟩) | exact ⟨by omega, by omega⟩ | exact ⟨by omega, by omega, by omega⟩ | (intro hh; (repeat' apply And.intro) <;> first | exact hh | omega | (have hz1 := hz (by assumption); omega))))
      refine hK17 _ ?_
      clear hK17
      refine W_cond (b := _) rfl (fun hc18 => ?_) (fun hc18 => ?_)
      · try simp only [decide_eq_true_eq, decide_eq_false_iff_not, ne_eq, Decidable.not_not, Bool.not_eq_true', Bool.not_eq_false', Bool.or_eq_true, Bool.and_eq_true, Bool.or_eq_false_iff, Bool.and_eq_false_iff] at hc18
        refine W_seq (fun K19 hK19 => ?_)
        refine W_region hT hG [] [6] ?_
        rw [hnt]
        simp only [baseS, eq_self, implies_true, if_true, if_false, reduceIte, Nat.reduceBEq, Nat.reduceEqDiff, Nat.reduceLT, Nat.reduceAdd, reduceCtorEq, tyInt, tdInt, tyBool, tdBool, tyInts, tdInts, tyLHull, tdLHull, tyLBoxes, tdLBoxes, tyHull, tdHull, tyBoxes, tdBoxes, c_laws_toIntS, c_laws_eqIntS, c_laws_markIntS, c_laws_heldIntS, c_laws_szBoxS, c_laws_toHull, c_laws_toBoxS, c_laws_eqBoxS, c_laws_markBoxS, c_spec_BestOrder, c_impl_BestOrder, heldF_mark, markL_len, bne_self_eq_false, best_eq, bestOK]
        repeat (refine And.intro ?_ ?_; focus (first | exact ordP (by kernel_rfl) | with_reducible exact rfl | trivial | assumption | (simp only [inR]; omega) | omega | (have hz1 := hz (by assumption); omega) | (have hz1 := hz (by assumption); exact ⟨by omega, by omega⟩) | exact ⟨by omega, by omega⟩ | exact ⟨by omega, by omega, by omega⟩ | (intro hh; (repeat' apply And.intro) <;> first | exact hh | omega | (have hz1 := hz (by assumption); omega))))
        refine hK19 _ ?_
        clear hK19
        refine W_ret ?_
        simp only [thenQ, blockQ, loopQ, retQ, reduceIte, Nat.reduceEqDiff]
        refine ret0 ?_ rfl rfl (.inr rfl) rfl
        simp only [show Try.f10.results.toList = [ResultVar.tmp 6] from rfl, resAV, resL, look, Nat.reduceEqDiff, reduceIte, tyHull, tdHull, applyUps, noH, isStr, List.length_cons, List.length_nil, Nat.reduceAdd, and_self]
        all_goals (
          first | rfl | (exfalso; omega) | (simp_all; done))
      · try simp only [decide_eq_true_eq, decide_eq_false_iff_not, ne_eq, Decidable.not_not, Bool.not_eq_true', Bool.not_eq_false', Bool.or_eq_true, Bool.and_eq_true, Bool.or_eq_false_iff, Bool.and_eq_false_iff] at hc18
        refine W_skip ?_
        simp only [thenQ, blockQ, loopQ, reduceIte, Nat.reduceEqDiff]
        refine hK16 _ ?_
        clear hK16
        refine W_seq (fun K20 hK20 => ?_)
        refine W_seq (fun K21 hK21 => ?_)
        refine W_region hT hG [] [1, 2, 3, 8, 9, 10, 11, 12, 13, 62] ?_
        rw [hnt]
        simp only [baseS, eq_self, implies_true, if_true, if_false, reduceIte, Nat.reduceBEq, Nat.reduceEqDiff, Nat.reduceLT, Nat.reduceAdd, reduceCtorEq, tyInt, tdInt, tyBool, tdBool, tyInts, tdInts, tyLHull, tdLHull, tyLBoxes, tdLBoxes, tyHull, tdHull, tyBoxes, tdBoxes, c_laws_toIntS, c_laws_eqIntS, c_laws_markIntS, c_laws_heldIntS, c_laws_szBoxS, c_laws_toHull, c_laws_toBoxS, c_laws_eqBoxS, c_laws_markBoxS, c_spec_BestOrder, c_impl_BestOrder, heldF_mark, markL_len, bne_self_eq_false, best_eq, bestOK]
        repeat (refine And.intro ?_ ?_; focus (first | exact ordP (by kernel_rfl) | with_reducible exact rfl | trivial | assumption | (simp only [inR]; omega) | omega | (have hz1 := hz (by assumption); omega) | (have hz1 := hz (by assumption); exact ⟨by omega, by omega⟩) | exact ⟨by omega, by omega⟩ | exact ⟨by omega, by omega, by omega⟩ | (intro hh; (repeat' apply And.intro) <;> first | exact hh | omega | (have hz1 := hz (by assumption); omega))))
        refine hK21 _ ?_
        clear hK21
        refine W_cond (b := _) rfl (fun hc22 => ?_) (fun hc22 => ?_)
        · try simp only [decide_eq_true_eq, decide_eq_false_iff_not, ne_eq, Decidable.not_not, Bool.not_eq_true', Bool.not_eq_false', Bool.or_eq_true, Bool.and_eq_true, Bool.or_eq_false_iff, Bool.and_eq_false_iff] at hc22
          refine W_seq (fun K23 hK23 => ?_)
          refine W_region hT hG [] [6] ?_
          rw [hnt]
          simp only [baseS, eq_self, implies_true, if_true, if_false, reduceIte, Nat.reduceBEq, Nat.reduceEqDiff, Nat.reduceLT, Nat.reduceAdd, reduceCtorEq, tyInt, tdInt, tyBool, tdBool, tyInts, tdInts, tyLHull, tdLHull, tyLBoxes, tdLBoxes, tyHull, tdHull, tyBoxes, tdBoxes, c_laws_toIntS, c_laws_eqIntS, c_laws_markIntS, c_laws_heldIntS, c_laws_szBoxS, c_laws_toHull, c_laws_toBoxS, c_laws_eqBoxS, c_laws_markBoxS, c_spec_BestOrder, c_impl_BestOrder, heldF_mark, markL_len, bne_self_eq_false, best_eq, bestOK]
          repeat (refine And.intro ?_ ?_; focus (first | exact ordP (by kernel_rfl) | with_reducible exact rfl | trivial | assumption | (simp only [inR]; omega) | omega | (have hz1 := hz (by assumption); omega) | (have hz1 := hz (by assumption); exact ⟨by omega, by omega⟩) | exact ⟨by omega, by omega⟩ | exact ⟨by omega, by omega, by omega⟩ | (intro hh; (repeat' apply And.intro) <;> first | exact hh | omega | (have hz1 := hz (by assumption); omega))))
          refine hK23 _ ?_
          clear hK23
          refine W_ret ?_
          simp only [thenQ, blockQ, loopQ, retQ, reduceIte, Nat.reduceEqDiff]
          refine ret0 ?_ rfl rfl (.inr rfl) rfl
          simp only [show Try.f10.results.toList = [ResultVar.tmp 6] from rfl, resAV, resL, look, Nat.reduceEqDiff, reduceIte, tyHull, tdHull, applyUps, noH, isStr, List.length_cons, List.length_nil, Nat.reduceAdd, and_self]
          all_goals (
            first | rfl | (exfalso; omega) | (simp_all; done))
        · try simp only [decide_eq_true_eq, decide_eq_false_iff_not, ne_eq, Decidable.not_not, Bool.not_eq_true', Bool.not_eq_false', Bool.or_eq_true, Bool.and_eq_true, Bool.or_eq_false_iff, Bool.and_eq_false_iff] at hc22
          refine W_skip ?_
          simp only [thenQ, blockQ, loopQ, reduceIte, Nat.reduceEqDiff]
          refine hK20 _ ?_
          clear hK20
          refine W_seq (fun K24 hK24 => ?_)
          refine W_seq (fun K25 hK25 => ?_)
          refine W_region hT hG [] [1, 2, 3, 8, 9, 10, 11, 12, 13, 67] ?_
          rw [hnt]
          simp only [baseS, eq_self, implies_true, if_true, if_false, reduceIte, Nat.reduceBEq, Nat.reduceEqDiff, Nat.reduceLT, Nat.reduceAdd, reduceCtorEq, tyInt, tdInt, tyBool, tdBool, tyInts, tdInts, tyLHull, tdLHull, tyLBoxes, tdLBoxes, tyHull, tdHull, tyBoxes, tdBoxes, c_laws_toIntS, c_laws_eqIntS, c_laws_markIntS, c_laws_heldIntS, c_laws_szBoxS, c_laws_toHull, c_laws_toBoxS, c_laws_eqBoxS, c_laws_markBoxS, c_spec_BestOrder, c_impl_BestOrder, heldF_mark, markL_len, bne_self_eq_false, best_eq, bestOK]
          repeat (refine And.intro ?_ ?_; focus (first | exact ordP (by kernel_rfl) | with_reducible exact rfl | trivial | assumption | (simp only [inR]; omega) | omega | (have hz1 := hz (by assumption); omega) | (have hz1 := hz (by assumption); exact ⟨by omega, by omega⟩) | exact ⟨by omega, by omega⟩ | exact ⟨by omega, by omega, by omega⟩ | (intro hh; (repeat' apply And.intro) <;> first | exact hh | omega | (have hz1 := hz (by assumption); omega))))
          refine hK25 _ ?_
          clear hK25
          refine W_cond (b := _) rfl (fun hc26 => ?_) (fun hc26 => ?_)
          · try simp only [decide_eq_true_eq, decide_eq_false_iff_not, ne_eq, Decidable.not_not, Bool.not_eq_true', Bool.not_eq_false', Bool.or_eq_true, Bool.and_eq_true, Bool.or_eq_false_iff, Bool.and_eq_false_iff] at hc26
            refine W_seq (fun K27 hK27 => ?_)
            refine W_region hT hG [] [6] ?_
            rw [hnt]
            simp only [baseS, eq_self, implies_true, if_true, if_false, reduceIte, Nat.reduceBEq, Nat.reduceEqDiff, Nat.reduceLT, Nat.reduceAdd, reduceCtorEq, tyInt, tdInt, tyBool, tdBool, tyInts, tdInts, tyLHull, tdLHull, tyLBoxes, tdLBoxes, tyHull, tdHull, tyBoxes, tdBoxes, c_laws_toIntS, c_laws_eqIntS, c_laws_markIntS, c_laws_heldIntS, c_laws_szBoxS, c_laws_toHull, c_laws_toBoxS, c_laws_eqBoxS, c_laws_markBoxS, c_spec_BestOrder, c_impl_BestOrder, heldF_mark, markL_len, bne_self_eq_false, best_eq, bestOK]
            repeat (refine And.intro ?_ ?_; focus (first | exact ordP (by kernel_rfl) | with_reducible exact rfl | trivial | assumption | (simp only [inR]; omega) | omega | (have hz1 := hz (by assumption); omega) | (have hz1 := hz (by assumption); exact ⟨by omega, by omega⟩) | exact ⟨by omega, by omega⟩ | exact ⟨by omega, by omega, by omega⟩ | (intro hh; (repeat' apply And.intro) <;> first | exact hh | omega | (have hz1 := hz (by assumption); omega))))
            refine hK27 _ ?_
            clear hK27
            refine W_ret ?_
            simp only [thenQ, blockQ, loopQ, retQ, reduceIte, Nat.reduceEqDiff]
            refine ret0 ?_ rfl rfl (.inr rfl) rfl
            simp only [show Try.f10.results.toList = [ResultVar.tmp 6] from rfl, resAV, resL, look, Nat.reduceEqDiff, reduceIte, tyHull, tdHull, applyUps, noH, isStr, List.length_cons, List.length_nil, Nat.reduceAdd, and_self]
            all_goals (
              first | rfl | (exfalso; omega) | (simp_all; done))
          · try simp only [decide_eq_true_eq, decide_eq_false_iff_not, ne_eq, Decidable.not_not, Bool.not_eq_true', Bool.not_eq_false', Bool.or_eq_true, Bool.and_eq_true, Bool.or_eq_false_iff, Bool.and_eq_false_iff] at hc26
            refine W_skip ?_
            simp only [thenQ, blockQ, loopQ, reduceIte, Nat.reduceEqDiff]
            refine hK24 _ ?_
            clear hK24
            refine W_seq (fun K28 hK28 => ?_)
            refine W_region hT hG [] [1, 2, 3, 8, 9, 10, 11, 12, 13, 14] ?_
            rw [hnt]
            simp only [baseS, eq_self, implies_true, if_true, if_false, reduceIte, Nat.reduceBEq, Nat.reduceEqDiff, Nat.reduceLT, Nat.reduceAdd, reduceCtorEq, tyInt, tdInt, tyBool, tdBool, tyInts, tdInts, tyLHull, tdLHull, tyLBoxes, tdLBoxes, tyHull, tdHull, tyBoxes, tdBoxes, c_laws_toIntS, c_laws_eqIntS, c_laws_markIntS, c_laws_heldIntS, c_laws_szBoxS, c_laws_toHull, c_laws_toBoxS, c_laws_eqBoxS, c_laws_markBoxS, c_spec_BestOrder, c_impl_BestOrder, heldF_mark, markL_len, bne_self_eq_false, best_eq, bestOK]
            repeat (refine And.intro ?_ ?_; focus (first | exact ordP (by kernel_rfl) | with_reducible exact rfl | trivial | assumption | (simp only [inR]; omega) | omega | (have hz1 := hz (by assumption); omega) | (have hz1 := hz (by assumption); exact ⟨by omega, by omega⟩) | exact ⟨by omega, by omega⟩ | exact ⟨by omega, by omega, by omega⟩ | (intro hh; (repeat' apply And.intro) <;> first | exact hh | omega | (have hz1 := hz (by assumption); omega))))
            refine hK28 _ ?_
            clear hK28
            refine W_seq (fun K29 hK29 => ?_)
            refine W_region hT hG [] [1, 2, 3, 8, 9, 11, 12, 13, 14] ?_
            rw [hnt]
            simp only [baseS, eq_self, implies_true, if_true, if_false, reduceIte, Nat.reduceBEq, Nat.reduceEqDiff, Nat.reduceLT, Nat.reduceAdd, reduceCtorEq, tyInt, tdInt, tyBool, tdBool, tyInts, tdInts, tyLHull, tdLHull, tyLBoxes, tdLBoxes, tyHull, tdHull, tyBoxes, tdBoxes, c_laws_toIntS, c_laws_eqIntS, c_laws_markIntS, c_laws_heldIntS, c_laws_szBoxS, c_laws_toHull, c_laws_toBoxS, c_laws_eqBoxS, c_laws_markBoxS, c_spec_BestOrder, c_impl_BestOrder, heldF_mark, markL_len, bne_self_eq_false, best_eq, bestOK]
            repeat (refine And.intro ?_ ?_; focus (first | exact ordP (by kernel_rfl) | with_reducible exact rfl | trivial | assumption | (simp only [inR]; omega) | omega | (have hz1 := hz (by assumption); omega) | (have hz1 := hz (by assumption); exact ⟨by omega, by omega⟩) | exact ⟨by omega, by omega⟩ | exact ⟨by omega, by omega, by omega⟩ | (intro hh; (repeat' apply And.intro) <;> first | exact hh | omega | (have hz1 := hz (by assumption); omega))))
            refine hK29 _ ?_
            clear hK29
            refine W_seq (fun K30 hK30 => ?_)
            refine W_region hT hG [] [1, 2, 3, 8, 9, 12, 13, 14] ?_
            rw [hnt]
            simp only [baseS, eq_self, implies_true, if_true, if_false, reduceIte, Nat.reduceBEq, Nat.reduceEqDiff, Nat.reduceLT, Nat.reduceAdd, reduceCtorEq, tyInt, tdInt, tyBool, tdBool, tyInts, tdInts, tyLHull, tdLHull, tyLBoxes, tdLBoxes, tyHull, tdHull, tyBoxes, tdBoxes, c_laws_toIntS, c_laws_eqIntS, c_laws_markIntS, c_laws_heldIntS, c_laws_szBoxS, c_laws_toHull, c_laws_toBoxS, c_laws_eqBoxS, c_laws_markBoxS, c_spec_BestOrder, c_impl_BestOrder, heldF_mark, markL_len, bne_self_eq_false, best_eq, bestOK]
            repeat (refine And.intro ?_ ?_; focus (first | exact ordP (by kernel_rfl) | with_reducible exact rfl | trivial | assumption | (simp only [inR]; omega) | omega | (have hz1 := hz (by assumption); omega) | (have hz1 := hz (by assumption); exact ⟨by omega, by omega⟩) | exact ⟨by omega, by omega⟩ | exact ⟨by omega, by omega, by omega⟩ | (intro hh; (repeat' apply And.intro) <;> first | exact hh | omega | (have hz1 := hz (by assumption); omega))))
            refine hK30 _ ?_
            clear hK30
            refine W_seq (fun K31 hK31 => ?_)
            refine W_seq (fun K32 hK32 => ?_)
            refine W_region hT hG [] [1, 2, 3, 8, 9, 12, 86] ?_
            rw [hnt]
            simp only [baseS, eq_self, implies_true, if_true, if_false, reduceIte, Nat.reduceBEq, Nat.reduceEqDiff, Nat.reduceLT, Nat.reduceAdd, reduceCtorEq, tyInt, tdInt, tyBool, tdBool, tyInts, tdInts, tyLHull, tdLHull, tyLBoxes, tdLBoxes, tyHull, tdHull, tyBoxes, tdBoxes, c_laws_toIntS, c_laws_eqIntS, c_laws_markIntS, c_laws_heldIntS, c_laws_szBoxS, c_laws_toHull, c_laws_toBoxS, c_laws_eqBoxS, c_laws_markBoxS, c_spec_BestOrder, c_impl_BestOrder, heldF_mark, markL_len, bne_self_eq_false, best_eq, bestOK]
            repeat (refine And.intro ?_ ?_; focus (first | exact ordP (by kernel_rfl) | with_reducible exact rfl | trivial | assumption | (simp only [inR]; omega) | omega | (have hz1 := hz (by assumption); omega) | (have hz1 := hz (by assumption); exact ⟨by omega, by omega⟩) | exact ⟨by omega, by omega⟩ | exact ⟨by omega, by omega, by omega⟩ | (intro hh; (repeat' apply And.intro) <;> first | exact hh | omega | (have hz1 := hz (by assumption); omega))))
            refine hK32 _ ?_
            clear hK32
            refine W_cond (b := _) rfl (fun hc33 => ?_) (fun hc33 => ?_)
            · try simp only [decide_eq_true_eq, decide_eq_false_iff_not, ne_eq, Decidable.not_not, Bool.not_eq_true', Bool.not_eq_false', Bool.or_eq_true, Bool.and_eq_true, Bool.or_eq_false_iff, Bool.and_eq_false_iff] at hc33
              refine W_seq (fun K34 hK34 => ?_)
              refine W_region hT hG [] [6] ?_
              rw [hnt]
              simp only [baseS, eq_self, implies_true, if_true, if_false, reduceIte, Nat.reduceBEq, Nat.reduceEqDiff, Nat.reduceLT, Nat.reduceAdd, reduceCtorEq, tyInt, tdInt, tyBool, tdBool, tyInts, tdInts, tyLHull, tdLHull, tyLBoxes, tdLBoxes, tyHull, tdHull, tyBoxes, tdBoxes, c_laws_toIntS, c_laws_eqIntS, c_laws_markIntS, c_laws_heldIntS, c_laws_szBoxS, c_laws_toHull, c_laws_toBoxS, c_laws_eqBoxS, c_laws_markBoxS, c_spec_BestOrder, c_impl_BestOrder, heldF_mark, markL_len, bne_self_eq_false, best_eq, bestOK]
              repeat (refine And.intro ?_ ?_; focus (first | exact ordP (by kernel_rfl) | with_reducible exact rfl | trivial | assumption | (simp only [inR]; omega) | omega | (have hz1 := hz (by assumption); omega) | (have hz1 := hz (by assumption); exact ⟨by omega, by omega⟩) | exact ⟨by omega, by omega⟩ | exact ⟨by omega, by omega, by omega⟩ | (intro hh; (repeat' apply And.intro) <;> first | exact hh | omega | (have hz1 := hz (by assumption); omega))))
              refine hK34 _ ?_
              clear hK34
              refine W_ret ?_
              simp only [thenQ, blockQ, loopQ, retQ, reduceIte, Nat.reduceEqDiff]
              refine ret0 ?_ rfl rfl (.inr rfl) rfl
              simp only [show Try.f10.results.toList = [ResultVar.tmp 6] from rfl, resAV, resL, look, Nat.reduceEqDiff, reduceIte, tyHull, tdHull, applyUps, noH, isStr, List.length_cons, List.length_nil, Nat.reduceAdd, and_self]
              all_goals (
                first | rfl | (exfalso; omega) | (simp_all; done))
            · try simp only [decide_eq_true_eq, decide_eq_false_iff_not, ne_eq, Decidable.not_not, Bool.not_eq_true', Bool.not_eq_false', Bool.or_eq_true, Bool.and_eq_true, Bool.or_eq_false_iff, Bool.and_eq_false_iff] at hc33
              refine W_skip ?_
              simp only [thenQ, blockQ, loopQ, reduceIte, Nat.reduceEqDiff]
              refine hK31 _ ?_
              clear hK31
              refine W_seq (fun K35 hK35 => ?_)
              refine W_region hT hG [] [1, 2, 3, 8, 9, 12, 15] ?_
              rw [hnt]
              simp only [baseS, eq_self, implies_true, if_true, if_false, reduceIte, Nat.reduceBEq, Nat.reduceEqDiff, Nat.reduceLT, Nat.reduceAdd, reduceCtorEq, tyInt, tdInt, tyBool, tdBool, tyInts, tdInts, tyLHull, tdLHull, tyLBoxes, tdLBoxes, tyHull, tdHull, tyBoxes, tdBoxes, c_laws_toIntS, c_laws_eqIntS, c_laws_markIntS, c_laws_heldIntS, c_laws_szBoxS, c_laws_toHull, c_laws_toBoxS, c_laws_eqBoxS, c_laws_markBoxS, c_spec_BestOrder, c_impl_BestOrder, heldF_mark, markL_len, bne_self_eq_false, best_eq, bestOK]
              repeat (refine And.intro ?_ ?_; focus (first | exact ordP (by kernel_rfl) | with_reducible exact rfl | trivial | assumption | (simp only [inR]; omega) | omega | (have hz1 := hz (by assumption); omega) | (have hz1 := hz (by assumption); exact ⟨by omega, by omega⟩) | exact ⟨by omega, by omega⟩ | exact ⟨by omega, by omega, by omega⟩ | (intro hh; (repeat' apply And.intro) <;> first | exact hh | omega | (have hz1 := hz (by assumption); omega))))
              refine hK35 _ ?_
              clear hK35
              refine W_seq (fun K36 hK36 => ?_)
              refine W_region hT hG [] [1, 2, 3, 8, 9, 12, 15] ?_
              rw [hnt]
              simp only [baseS, eq_self, implies_true, if_true, if_false, reduceIte, Nat.reduceBEq, Nat.reduceEqDiff, Nat.reduceLT, Nat.reduceAdd, reduceCtorEq, tyInt, tdInt, tyBool, tdBool, tyInts, tdInts, tyLHull, tdLHull, tyLBoxes, tdLBoxes, tyHull, tdHull, tyBoxes, tdBoxes, c_laws_toIntS, c_laws_eqIntS, c_laws_markIntS, c_laws_heldIntS, c_laws_szBoxS, c_laws_toHull, c_laws_toBoxS, c_laws_eqBoxS, c_laws_markBoxS, c_spec_BestOrder, c_impl_BestOrder, heldF_mark, markL_len, bne_self_eq_false, best_eq, bestOK]
              repeat (refine And.intro ?_ ?_; focus (first | exact ordP (by kernel_rfl) | with_reducible exact rfl | trivial | assumption | (simp only [inR]; omega) | omega | (have hz1 := hz (by assumption); omega) | (have hz1 := hz (by assumption); exact ⟨by omega, by omega⟩) | exact ⟨by omega, by omega⟩ | exact ⟨by omega, by omega, by omega⟩ | (intro hh; (repeat' apply And.intro) <;> first | exact hh | omega | (have hz1 := hz (by assumption); omega))))
              refine hK36 _ ?_
              clear hK36
              refine W_seq (fun K37 hK37 => ?_)
              refine W_region hT hG [] [1, 2, 3, 8, 9, 12, 15, 16] ?_
              rw [hnt]
              simp only [baseS, eq_self, implies_true, if_true, if_false, reduceIte, Nat.reduceBEq, Nat.reduceEqDiff, Nat.reduceLT, Nat.reduceAdd, reduceCtorEq, tyInt, tdInt, tyBool, tdBool, tyInts, tdInts, tyLHull, tdLHull, tyLBoxes, tdLBoxes, tyHull, tdHull, tyBoxes, tdBoxes, c_laws_toIntS, c_laws_eqIntS, c_laws_markIntS, c_laws_heldIntS, c_laws_szBoxS, c_laws_toHull, c_laws_toBoxS, c_laws_eqBoxS, c_laws_markBoxS, c_spec_BestOrder, c_impl_BestOrder, heldF_mark, markL_len, bne_self_eq_false, best_eq, bestOK]
              repeat (refine And.intro ?_ ?_; focus (first | exact ordP (by kernel_rfl) | with_reducible exact rfl | trivial | assumption | (simp only [inR]; omega) | omega | (have hz1 := hz (by assumption); omega) | (have hz1 := hz (by assumption); exact ⟨by omega, by omega⟩) | exact ⟨by omega, by omega⟩ | exact ⟨by omega, by omega, by omega⟩ | (intro hh; (repeat' apply And.intro) <;> first | exact hh | omega | (have hz1 := hz (by assumption); omega))))
              refine hK37 _ ?_
              clear hK37
              refine W_seq (fun K38 hK38 => ?_)
              refine W_region hT hG [] [1, 2, 3, 8, 9, 12, 15, 16] ?_
              rw [hnt]
              simp only [baseS, eq_self, implies_true, if_true, if_false, reduceIte, Nat.reduceBEq, Nat.reduceEqDiff, Nat.reduceLT, Nat.reduceAdd, reduceCtorEq, tyInt, tdInt, tyBool, tdBool, tyInts, tdInts, tyLHull, tdLHull, tyLBoxes, tdLBoxes, tyHull, tdHull, tyBoxes, tdBoxes, c_laws_toIntS, c_laws_eqIntS, c_laws_markIntS, c_laws_heldIntS, c_laws_szBoxS, c_laws_toHull, c_laws_toBoxS, c_laws_eqBoxS, c_laws_markBoxS, c_spec_BestOrder, c_impl_BestOrder, heldF_mark, markL_len, bne_self_eq_false, best_eq, bestOK]
              repeat (refine And.intro ?_ ?_; focus (first | exact ordP (by kernel_rfl) | with_reducible exact rfl | trivial | assumption | (simp only [inR]; omega) | omega | (have hz1 := hz (by assumption); omega) | (have hz1 := hz (by assumption); exact ⟨by omega, by omega⟩) | exact ⟨by omega, by omega⟩ | exact ⟨by omega, by omega, by omega⟩ | (intro hh; (repeat' apply And.intro) <;> first | exact hh | omega | (have hz1 := hz (by assumption); omega))))
              refine hK38 _ ?_
              clear hK38
              refine W_seq (fun K39 hK39 => ?_)
              refine W_seq (fun K40 hK40 => ?_)
              refine W_region hT hG [] [1, 2, 3, 8, 9, 12, 15, 16, 94] ?_
              rw [hnt]
              simp only [baseS, eq_self, implies_true, if_true, if_false, reduceIte, Nat.reduceBEq, Nat.reduceEqDiff, Nat.reduceLT, Nat.reduceAdd, reduceCtorEq, tyInt, tdInt, tyBool, tdBool, tyInts, tdInts, tyLHull, tdLHull, tyLBoxes, tdLBoxes, tyHull, tdHull, tyBoxes, tdBoxes, c_laws_toIntS, c_laws_eqIntS, c_laws_markIntS, c_laws_heldIntS, c_laws_szBoxS, c_laws_toHull, c_laws_toBoxS, c_laws_eqBoxS, c_laws_markBoxS, c_spec_BestOrder, c_impl_BestOrder, heldF_mark, markL_len, bne_self_eq_false, best_eq, bestOK]
              repeat (refine And.intro ?_ ?_; focus (first | exact ordP (by kernel_rfl) | with_reducible exact rfl | trivial | assumption | (simp only [inR]; omega) | omega | (have hz1 := hz (by assumption); omega) | (have hz1 := hz (by assumption); exact ⟨by omega, by omega⟩) | exact ⟨by omega, by omega⟩ | exact ⟨by omega, by omega, by omega⟩ | (intro hh; (repeat' apply And.intro) <;> first | exact hh | omega | (have hz1 := hz (by assumption); omega))))
              refine hK40 _ ?_
              clear hK40
              refine W_cond (b := _) rfl (fun hc41 => ?_) (fun hc41 => ?_)
              · try simp only [decide_eq_true_eq, decide_eq_false_iff_not, ne_eq, Decidable.not_not, Bool.not_eq_true', Bool.not_eq_false', Bool.or_eq_true, Bool.and_eq_true, Bool.or_eq_false_iff, Bool.and_eq_false_iff] at hc41
                refine W_seq (fun K42 hK42 => ?_)
                refine W_region hT hG [] [6] ?_
                rw [hnt]
                simp only [baseS, eq_self, implies_true, if_true, if_false, reduceIte, Nat.reduceBEq, Nat.reduceEqDiff, Nat.reduceLT, Nat.reduceAdd, reduceCtorEq, tyInt, tdInt, tyBool, tdBool, tyInts, tdInts, tyLHull, tdLHull, tyLBoxes, tdLBoxes, tyHull, tdHull, tyBoxes, tdBoxes, c_laws_toIntS, c_laws_eqIntS, c_laws_markIntS, c_laws_heldIntS, c_laws_szBoxS, c_laws_toHull, c_laws_toBoxS, c_laws_eqBoxS, c_laws_markBoxS, c_spec_BestOrder, c_impl_BestOrder, heldF_mark, markL_len, bne_self_eq_false, best_eq, bestOK]
                repeat (refine And.intro ?_ ?_; focus (first | exact ordP (by kernel_rfl) | with_reducible exact rfl | trivial | assumption | (simp only [inR]; omega) | omega | (have hz1 := hz (by assumption); omega) | (have hz1 := hz (by assumption); exact ⟨by omega, by omega⟩) | exact ⟨by omega, by omega⟩ | exact ⟨by omega, by omega, by omega⟩ | (intro hh; (repeat' apply And.intro) <;> first | exact hh | omega | (have hz1 := hz (by assumption); omega))))
                refine hK42 _ ?_
                clear hK42
                refine W_ret ?_
                simp only [thenQ, blockQ, loopQ, retQ, reduceIte, Nat.reduceEqDiff]
                refine ret0 ?_ rfl rfl (.inr rfl) rfl
                simp only [show Try.f10.results.toList = [ResultVar.tmp 6] from rfl, resAV, resL, look, Nat.reduceEqDiff, reduceIte, tyHull, tdHull, applyUps, noH, isStr, List.length_cons, List.length_nil, Nat.reduceAdd, and_self]
                all_goals (
                  first | rfl | (exfalso; omega) | (simp_all; done))
              · try simp only [decide_eq_true_eq, decide_eq_false_iff_not, ne_eq, Decidable.not_not, Bool.not_eq_true', Bool.not_eq_false', Bool.or_eq_true, Bool.and_eq_true, Bool.or_eq_false_iff, Bool.and_eq_false_iff] at hc41
                refine W_skip ?_
                simp only [thenQ, blockQ, loopQ, reduceIte, Nat.reduceEqDiff]
                refine hK39 _ ?_
                clear hK39
                refine W_seq (fun K43 hK43 => ?_)
                refine W_seq (fun K44 hK44 => ?_)
                refine W_region hT hG [] [1, 2, 3, 8, 9, 12, 15, 97] ?_
                rw [hnt]
                simp only [baseS, eq_self, implies_true, if_true, if_false, reduceIte, Nat.reduceBEq, Nat.reduceEqDiff, Nat.reduceLT, Nat.reduceAdd, reduceCtorEq, tyInt, tdInt, tyBool, tdBool, tyInts, tdInts, tyLHull, tdLHull, tyLBoxes, tdLBoxes, tyHull, tdHull, tyBoxes, tdBoxes, c_laws_toIntS, c_laws_eqIntS, c_laws_markIntS, c_laws_heldIntS, c_laws_szBoxS, c_laws_toHull, c_laws_toBoxS, c_laws_eqBoxS, c_laws_markBoxS, c_spec_BestOrder, c_impl_BestOrder, heldF_mark, markL_len, bne_self_eq_false, best_eq, bestOK]
                repeat (refine And.intro ?_ ?_; focus (first | exact ordP (by kernel_rfl) | with_reducible exact rfl | trivial | assumption | (simp only [inR]; omega) | omega | (have hz1 := hz (by assumption); omega) | (have hz1 := hz (by assumption); exact ⟨by omega, by omega⟩) | exact ⟨by omega, by omega⟩ | exact ⟨by omega, by omega, by omega⟩ | (intro hh; (repeat' apply And.intro) <;> first | exact hh | omega | (have hz1 := hz (by assumption); omega))))
                refine hK44 _ ?_
                clear hK44
                refine W_cond (b := _) rfl (fun hc45 => ?_) (fun hc45 => ?_)
                · try simp only [decide_eq_true_eq, decide_eq_false_iff_not, ne_eq, Decidable.not_not, Bool.not_eq_true', Bool.not_eq_false', Bool.or_eq_true, Bool.and_eq_true, Bool.or_eq_false_iff, Bool.and_eq_false_iff] at hc45
                  refine W_seq (fun K46 hK46 => ?_)
                  refine W_region hT hG [] [6] ?_
                  rw [hnt]
                  simp only [baseS, eq_self, implies_true, if_true, if_false, reduceIte, Nat.reduceBEq, Nat.reduceEqDiff, Nat.reduceLT, Nat.reduceAdd, reduceCtorEq, tyInt, tdInt, tyBool, tdBool, tyInts, tdInts, tyLHull, tdLHull, tyLBoxes, tdLBoxes, tyHull, tdHull, tyBoxes, tdBoxes, c_laws_toIntS, c_laws_eqIntS, c_laws_markIntS, c_laws_heldIntS, c_laws_szBoxS, c_laws_toHull, c_laws_toBoxS, c_laws_eqBoxS, c_laws_markBoxS, c_spec_BestOrder, c_impl_BestOrder, heldF_mark, markL_len, bne_self_eq_false, best_eq, bestOK]
                  repeat (refine And.intro ?_ ?_; focus (first | exact ordP (by kernel_rfl) | with_reducible exact rfl | trivial | assumption | (simp only [inR]; omega) | omega | (have hz1 := hz (by assumption); omega) | (have hz1 := hz (by assumption); exact ⟨by omega, by omega⟩) | exact ⟨by omega, by omega⟩ | exact ⟨by omega, by omega, by omega⟩ | (intro hh; (repeat' apply And.intro) <;> first | exact hh | omega | (have hz1 := hz (by assumption); omega))))
                  refine hK46 _ ?_
                  clear hK46
                  refine W_ret ?_
                  simp only [thenQ, blockQ, loopQ, retQ, reduceIte, Nat.reduceEqDiff]
                  refine ret0 ?_ rfl rfl (.inr rfl) rfl
                  simp only [show Try.f10.results.toList = [ResultVar.tmp 6] from rfl, resAV, resL, look, Nat.reduceEqDiff, reduceIte, tyHull, tdHull, applyUps, noH, isStr, List.length_cons, List.length_nil, Nat.reduceAdd, and_self]
                  all_goals (
                    first | rfl | (exfalso; omega) | (simp_all; done))
                · try simp only [decide_eq_true_eq, decide_eq_false_iff_not, ne_eq, Decidable.not_not, Bool.not_eq_true', Bool.not_eq_false', Bool.or_eq_true, Bool.and_eq_true, Bool.or_eq_false_iff, Bool.and_eq_false_iff] at hc45
                  refine W_skip ?_
                  simp only [thenQ, blockQ, loopQ, reduceIte, Nat.reduceEqDiff]
                  refine hK43 _ ?_
                  clear hK43
                  refine W_seq (fun K47 hK47 => ?_)
                  refine W_region hT hG [] [8, 9, 12, 15, 17, 18] ?_
                  rw [hnt]
                  simp only [baseS, eq_self, implies_true, if_true, if_false, reduceIte, Nat.reduceBEq, Nat.reduceEqDiff, Nat.reduceLT, Nat.reduceAdd, reduceCtorEq, tyInt, tdInt, tyBool, tdBool, tyInts, tdInts, tyLHull, tdLHull, tyLBoxes, tdLBoxes, tyHull, tdHull, tyBoxes, tdBoxes, c_laws_toIntS, c_laws_eqIntS, c_laws_markIntS, c_laws_heldIntS, c_laws_szBoxS, c_laws_toHull, c_laws_toBoxS, c_laws_eqBoxS, c_laws_markBoxS, c_spec_BestOrder, c_impl_BestOrder, heldF_mark, markL_len, bne_self_eq_false, best_eq, bestOK]
                  repeat (refine And.intro ?_ ?_; focus (first | exact ordP (by kernel_rfl) | with_reducible exact rfl | trivial | assumption | (simp only [inR]; omega) | omega | (have hz1 := hz (by assumption); omega) | (have hz1 := hz (by assumption); exact ⟨by omega, by omega⟩) | exact ⟨by omega, by omega⟩ | exact ⟨by omega, by omega, by omega⟩ | (intro hh; (repeat' apply And.intro) <;> first | exact hh | omega | (have hz1 := hz (by assumption); omega))))
                  refine hK47 _ ?_
                  clear hK47
                  refine W_seq (fun K48 hK48 => ?_)
                  refine W_seq (fun K49 hK49 => ?_)
                  refine W_region hT hG [] [12, 15, 116] ?_
                  rw [hnt]
                  simp only [baseS, eq_self, implies_true, if_true, if_false, reduceIte, Nat.reduceBEq, Nat.reduceEqDiff, Nat.reduceLT, Nat.reduceAdd, reduceCtorEq, tyInt, tdInt, tyBool, tdBool, tyInts, tdInts, tyLHull, tdLHull, tyLBoxes, tdLBoxes, tyHull, tdHull, tyBoxes, tdBoxes, c_laws_toIntS, c_laws_eqIntS, c_laws_markIntS, c_laws_heldIntS, c_laws_szBoxS, c_laws_toHull, c_laws_toBoxS, c_laws_eqBoxS, c_laws_markBoxS, c_spec_BestOrder, c_impl_BestOrder, heldF_mark, markL_len, bne_self_eq_false, best_eq, bestOK]
                  repeat (refine And.intro ?_ ?_; focus (first | exact ordP (by kernel_rfl) | with_reducible exact rfl | trivial | assumption | (simp only [inR]; omega) | omega | (have hz1 := hz (by assumption); omega) | (have hz1 := hz (by assumption); exact ⟨by omega, by omega⟩) | exact ⟨by omega, by omega⟩ | exact ⟨by omega, by omega, by omega⟩ | (intro hh; (repeat' apply And.intro) <;> first | exact hh | omega | (have hz1 := hz (by assumption); omega))))
                  refine hK49 _ ?_
                  clear hK49
                  refine W_cond (b := _) rfl (fun hc50 => ?_) (fun hc50 => ?_)
                  · try simp only [decide_eq_true_eq, decide_eq_false_iff_not, ne_eq, Decidable.not_not, Bool.not_eq_true', Bool.not_eq_false', Bool.or_eq_true, Bool.and_eq_true, Bool.or_eq_false_iff, Bool.and_eq_false_iff] at hc50
                    refine W_seq (fun K51 hK51 => ?_)
                    refine W_region hT hG [] [6] ?_
                    rw [hnt]
                    simp only [baseS, eq_self, implies_true, if_true, if_false, reduceIte, Nat.reduceBEq, Nat.reduceEqDiff, Nat.reduceLT, Nat.reduceAdd, reduceCtorEq, tyInt, tdInt, tyBool, tdBool, tyInts, tdInts, tyLHull, tdLHull, tyLBoxes, tdLBoxes, tyHull, tdHull, tyBoxes, tdBoxes, c_laws_toIntS, c_laws_eqIntS, c_laws_markIntS, c_laws_heldIntS, c_laws_szBoxS, c_laws_toHull, c_laws_toBoxS, c_laws_eqBoxS, c_laws_markBoxS, c_spec_BestOrder, c_impl_BestOrder, heldF_mark, markL_len, bne_self_eq_false, best_eq, bestOK]
                    repeat (refine And.intro ?_ ?_; focus (first | exact ordP (by kernel_rfl) | with_reducible exact rfl | trivial | assumption | (simp only [inR]; omega) | omega | (have hz1 := hz (by assumption); omega) | (have hz1 := hz (by assumption); exact ⟨by omega, by omega⟩) | exact ⟨by omega, by omega⟩ | exact ⟨by omega, by omega, by omega⟩ | (intro hh; (repeat' apply And.intro) <;> first | exact hh | omega | (have hz1 := hz (by assumption); omega))))
                    refine hK51 _ ?_
                    clear hK51
                    refine W_ret ?_
                    simp only [thenQ, blockQ, loopQ, retQ, reduceIte, Nat.reduceEqDiff]
                    refine ret0 ?_ rfl rfl (.inr rfl) rfl
                    simp only [show Try.f10.results.toList = [ResultVar.tmp 6] from rfl, resAV, resL, look, Nat.reduceEqDiff, reduceIte, tyHull, tdHull, applyUps, noH, isStr, List.length_cons, List.length_nil, Nat.reduceAdd, and_self]
                    all_goals (
                      first | rfl | (exfalso; omega) | (simp_all; done))
                  · try simp only [decide_eq_true_eq, decide_eq_false_iff_not, ne_eq, Decidable.not_not, Bool.not_eq_true', Bool.not_eq_false', Bool.or_eq_true, Bool.and_eq_true, Bool.or_eq_false_iff, Bool.and_eq_false_iff] at hc50
                    refine W_skip ?_
                    simp only [thenQ, blockQ, loopQ, reduceIte, Nat.reduceEqDiff]
                    refine hK48 _ ?_
                    clear hK48
                    refine W_seq (fun K52 hK52 => ?_)
                    refine W_region hT hG [] [12, 15, 16] ?_
                    rw [hnt]
                    simp only [baseS, eq_self, implies_true, if_true, if_false, reduceIte, Nat.reduceBEq, Nat.reduceEqDiff, Nat.reduceLT, Nat.reduceAdd, reduceCtorEq, tyInt, tdInt, tyBool, tdBool, tyInts, tdInts, tyLHull, tdLHull, tyLBoxes, tdLBoxes, tyHull, tdHull, tyBoxes, tdBoxes, c_laws_toIntS, c_laws_eqIntS, c_laws_markIntS, c_laws_heldIntS, c_laws_szBoxS, c_laws_toHull, c_laws_toBoxS, c_laws_eqBoxS, c_laws_markBoxS, c_spec_BestOrder, c_impl_BestOrder, heldF_mark, markL_len, bne_self_eq_false, best_eq, bestOK]
                    repeat (refine And.intro ?_ ?_; focus (first | exact ordP (by kernel_rfl) | with_reducible exact rfl | trivial | assumption | (simp only [inR]; omega) | omega | (have hz1 := hz (by assumption); omega) | (have hz1 := hz (by assumption); exact ⟨by omega, by omega⟩) | exact ⟨by omega, by omega⟩ | exact ⟨by omega, by omega, by omega⟩ | (intro hh; (repeat' apply And.intro) <;> first | exact hh | omega | (have hz1 := hz (by assumption); omega))))
                    refine hK52 _ ?_
                    clear hK52
                    refine W_seq (fun K53 hK53 => ?_)
                    refine W_region hT hG [] [15, 16] ?_
                    rw [hnt]
                    simp only [baseS, eq_self, implies_true, if_true, if_false, reduceIte, Nat.reduceBEq, Nat.reduceEqDiff, Nat.reduceLT, Nat.reduceAdd, reduceCtorEq, tyInt, tdInt, tyBool, tdBool, tyInts, tdInts, tyLHull, tdLHull, tyLBoxes, tdLBoxes, tyHull, tdHull, tyBoxes, tdBoxes, c_laws_toIntS, c_laws_eqIntS, c_laws_markIntS, c_laws_heldIntS, c_laws_szBoxS, c_laws_toHull, c_laws_toBoxS, c_laws_eqBoxS, c_laws_markBoxS, c_spec_BestOrder, c_impl_BestOrder, heldF_mark, markL_len, bne_self_eq_false, best_eq, bestOK]
                    repeat (refine And.intro ?_ ?_; focus (first | exact ordP (by kernel_rfl) | with_reducible exact rfl | trivial | assumption | (simp only [inR]; omega) | omega | (have hz1 := hz (by assumption); omega) | (have hz1 := hz (by assumption); exact ⟨by omega, by omega⟩) | exact ⟨by omega, by omega⟩ | exact ⟨by omega, by omega, by omega⟩ | (intro hh; (repeat' apply And.intro) <;> first | exact hh | omega | (have hz1 := hz (by assumption); omega))))
                    refine hK53 _ ?_
                    clear hK53
                    refine W_seq (fun K54 hK54 => ?_)
                    refine W_seq (fun K55 hK55 => ?_)
                    refine W_region hT hG [] [15, 16, 121] ?_
                    rw [hnt]
                    simp only [baseS, eq_self, implies_true, if_true, if_false, reduceIte, Nat.reduceBEq, Nat.reduceEqDiff, Nat.reduceLT, Nat.reduceAdd, reduceCtorEq, tyInt, tdInt, tyBool, tdBool, tyInts, tdInts, tyLHull, tdLHull, tyLBoxes, tdLBoxes, tyHull, tdHull, tyBoxes, tdBoxes, c_laws_toIntS, c_laws_eqIntS, c_laws_markIntS, c_laws_heldIntS, c_laws_szBoxS, c_laws_toHull, c_laws_toBoxS, c_laws_eqBoxS, c_laws_markBoxS, c_spec_BestOrder, c_impl_BestOrder, heldF_mark, markL_len, bne_self_eq_false, best_eq, bestOK]
                    repeat (refine And.intro ?_ ?_; focus (first | exact ordP (by kernel_rfl) | with_reducible exact rfl | trivial | assumption | (simp only [inR]; omega) | omega | (have hz1 := hz (by assumption); omega) | (have hz1 := hz (by assumption); exact ⟨by omega, by omega⟩) | exact ⟨by omega, by omega⟩ | exact ⟨by omega, by omega, by omega⟩ | (intro hh; (repeat' apply And.intro) <;> first | exact hh | omega | (have hz1 := hz (by assumption); omega))))
                    refine hK55 _ ?_
                    clear hK55
                    refine W_cond (b := _) rfl (fun hc56 => ?_) (fun hc56 => ?_)
                    · try simp only [decide_eq_true_eq, decide_eq_false_iff_not, ne_eq, Decidable.not_not, Bool.not_eq_true', Bool.not_eq_false', Bool.or_eq_true, Bool.and_eq_true, Bool.or_eq_false_iff, Bool.and_eq_false_iff] at hc56
                      refine W_seq (fun K57 hK57 => ?_)
                      refine W_region hT hG [] [6] ?_
                      rw [hnt]
                      simp only [baseS, eq_self, implies_true, if_true, if_false, reduceIte, Nat.reduceBEq, Nat.reduceEqDiff, Nat.reduceLT, Nat.reduceAdd, reduceCtorEq, tyInt, tdInt, tyBool, tdBool, tyInts, tdInts, tyLHull, tdLHull, tyLBoxes, tdLBoxes, tyHull, tdHull, tyBoxes, tdBoxes, c_laws_toIntS, c_laws_eqIntS, c_laws_markIntS, c_laws_heldIntS, c_laws_szBoxS, c_laws_toHull, c_laws_toBoxS, c_laws_eqBoxS, c_laws_markBoxS, c_spec_BestOrder, c_impl_BestOrder, heldF_mark, markL_len, bne_self_eq_false, best_eq, bestOK]
                      repeat (refine And.intro ?_ ?_; focus (first | exact ordP (by kernel_rfl) | with_reducible exact rfl | trivial | assumption | (simp only [inR]; omega) | omega | (have hz1 := hz (by assumption); omega) | (have hz1 := hz (by assumption); exact ⟨by omega, by omega⟩) | exact ⟨by omega, by omega⟩ | exact ⟨by omega, by omega, by omega⟩ | (intro hh; (repeat' apply And.intro) <;> first | exact hh | omega | (have hz1 := hz (by assumption); omega))))
                      refine hK57 _ ?_
                      clear hK57
                      refine W_ret ?_
                      simp only [thenQ, blockQ, loopQ, retQ, reduceIte, Nat.reduceEqDiff]
                      refine ret0 ?_ rfl rfl (.inr rfl) rfl
                      simp only [show Try.f10.results.toList = [ResultVar.tmp 6] from rfl, resAV, resL, look, Nat.reduceEqDiff, reduceIte, tyHull, tdHull, applyUps, noH, isStr, List.length_cons, List.length_nil, Nat.reduceAdd, and_self]
                      all_goals (
                        first | rfl | (exfalso; omega) | (simp_all; done))
                    · try simp only [decide_eq_true_eq, decide_eq_false_iff_not, ne_eq, Decidable.not_not, Bool.not_eq_true', Bool.not_eq_false', Bool.or_eq_true, Bool.and_eq_true, Bool.or_eq_false_iff, Bool.and_eq_false_iff] at hc56
                      refine W_skip ?_
                      simp only [thenQ, blockQ, loopQ, reduceIte, Nat.reduceEqDiff]
                      refine hK54 _ ?_
                      clear hK54
                      refine W_seq (fun K58 hK58 => ?_)
                      refine W_seq (fun K59 hK59 => ?_)
                      refine W_region hT hG [] [124] ?_
                      rw [hnt]
                      simp only [baseS, eq_self, implies_true, if_true, if_false, reduceIte, Nat.reduceBEq, Nat.reduceEqDiff, Nat.reduceLT, Nat.reduceAdd, reduceCtorEq, tyInt, tdInt, tyBool, tdBool, tyInts, tdInts, tyLHull, tdLHull, tyLBoxes, tdLBoxes, tyHull, tdHull, tyBoxes, tdBoxes, c_laws_toIntS, c_laws_eqIntS, c_laws_markIntS, c_laws_heldIntS, c_laws_szBoxS, c_laws_toHull, c_laws_toBoxS, c_laws_eqBoxS, c_laws_markBoxS, c_spec_BestOrder, c_impl_BestOrder, heldF_mark, markL_len, bne_self_eq_false, best_eq, bestOK]
                      repeat (refine And.intro ?_ ?_; focus (first | exact ordP (by kernel_rfl) | with_reducible exact rfl | trivial | assumption | (simp only [inR]; omega) | omega | (have hz1 := hz (by assumption); omega) | (have hz1 := hz (by assumption); exact ⟨by omega, by omega⟩) | exact ⟨by omega, by omega⟩ | exact ⟨by omega, by omega, by omega⟩ | (intro hh; (repeat' apply And.intro) <;> first | exact hh | omega | (have hz1 := hz (by assumption); omega))))
                      refine hK59 _ ?_
                      clear hK59
                      refine W_cond (b := _) rfl (fun hc60 => ?_) (fun hc60 => ?_)
                      · try simp only [decide_eq_true_eq, decide_eq_false_iff_not, ne_eq, Decidable.not_not, Bool.not_eq_true', Bool.not_eq_false', Bool.or_eq_true, Bool.and_eq_true, Bool.or_eq_false_iff, Bool.and_eq_false_iff] at hc60
                        refine W_seq (fun K61 hK61 => ?_)
                        refine W_region hT hG [] [6] ?_
                        rw [hnt]
                        simp only [baseS, eq_self, implies_true, if_true, if_false, reduceIte, Nat.reduceBEq, Nat.reduceEqDiff, Nat.reduceLT, Nat.reduceAdd, reduceCtorEq, tyInt, tdInt, tyBool, tdBool, tyInts, tdInts, tyLHull, tdLHull, tyLBoxes, tdLBoxes, tyHull, tdHull, tyBoxes, tdBoxes, c_laws_toIntS, c_laws_eqIntS, c_laws_markIntS, c_laws_heldIntS, c_laws_szBoxS, c_laws_toHull, c_laws_toBoxS, c_laws_eqBoxS, c_laws_markBoxS, c_spec_BestOrder, c_impl_BestOrder, heldF_mark, markL_len, bne_self_eq_false, best_eq, bestOK]
                        repeat (refine And.intro ?_ ?_; focus (first | exact ordP (by kernel_rfl) | with_reducible exact rfl | trivial | assumption | (simp only [inR]; omega) | omega | (have hz1 := hz (by assumption); omega) | (have hz1 := hz (by assumption); exact ⟨by omega, by omega⟩) | exact ⟨by omega, by omega⟩ | exact ⟨by omega, by omega, by omega⟩ | (intro hh; (repeat' apply And.intro) <;> first | exact hh | omega | (have hz1 := hz (by assumption); omega))))
                        refine hK61 _ ?_
                        clear hK61
                        refine W_ret ?_
                        simp only [thenQ, blockQ, loopQ, retQ, reduceIte, Nat.reduceEqDiff]
                        refine ret0 ?_ rfl rfl (.inr rfl) rfl
                        simp only [show Try.f10.results.toList = [ResultVar.tmp 6] from rfl, resAV, resL, look, Nat.reduceEqDiff, reduceIte, tyHull, tdHull, applyUps, noH, isStr, List.length_cons, List.length_nil, Nat.reduceAdd, and_self]
                        all_goals (
                          first | rfl | (exfalso; omega) | (simp_all; done))
                      · try simp only [decide_eq_true_eq, decide_eq_false_iff_not, ne_eq, Decidable.not_not, Bool.not_eq_true', Bool.not_eq_false', Bool.or_eq_true, Bool.and_eq_true, Bool.or_eq_false_iff, Bool.and_eq_false_iff] at hc60
                        refine W_skip ?_
                        simp only [thenQ, blockQ, loopQ, reduceIte, Nat.reduceEqDiff]
                        refine hK58 _ ?_
                        clear hK58
                        refine W_seq (fun K62 hK62 => ?_)
                        refine W_region hT hG [] [6] ?_
                        rw [hnt]
                        simp only [baseS, eq_self, implies_true, if_true, if_false, reduceIte, Nat.reduceBEq, Nat.reduceEqDiff, Nat.reduceLT, Nat.reduceAdd, reduceCtorEq, tyInt, tdInt, tyBool, tdBool, tyInts, tdInts, tyLHull, tdLHull, tyLBoxes, tdLBoxes, tyHull, tdHull, tyBoxes, tdBoxes, c_laws_toIntS, c_laws_eqIntS, c_laws_markIntS, c_laws_heldIntS, c_laws_szBoxS, c_laws_toHull, c_laws_toBoxS, c_laws_eqBoxS, c_laws_markBoxS, c_spec_BestOrder, c_impl_BestOrder, heldF_mark, markL_len, bne_self_eq_false, best_eq, bestOK]
                        repeat (refine And.intro ?_ ?_; focus (first | exact ordP (by kernel_rfl) | with_reducible exact rfl | trivial | assumption | (simp only [inR]; omega) | omega | (have hz1 := hz (by assumption); omega) | (have hz1 := hz (by assumption); exact ⟨by omega, by omega⟩) | exact ⟨by omega, by omega⟩ | exact ⟨by omega, by omega, by omega⟩ | (intro hh; (repeat' apply And.intro) <;> first | exact hh | omega | (have hz1 := hz (by assumption); omega))))
                        refine hK62 _ ?_
                        clear hK62
                        refine W_ret ?_
                        simp only [thenQ, blockQ, loopQ, retQ, reduceIte, Nat.reduceEqDiff]
                        refine ret0 ?_ rfl rfl (.inr rfl) rfl
                        simp only [show Try.f10.results.toList = [ResultVar.tmp 6] from rfl, resAV, resL, look, Nat.reduceEqDiff, reduceIte, tyHull, tdHull, applyUps, noH, isStr, List.length_cons, List.length_nil, Nat.reduceAdd, and_self]
                        all_goals (
                          first | rfl | (exfalso; omega) | (simp_all; done))

end Go.Proofs.Ytpiaeckkjdcifaa
