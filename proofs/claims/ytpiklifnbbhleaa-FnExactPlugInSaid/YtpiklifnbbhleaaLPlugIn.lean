/- Walk over the law laws.FnExactPlugIn. No condition. -/
import Derived.Test.YtpiklifnbbhleaaMats
import Derived.Test.YtpiklifnbbhleaaPlugM
namespace Go.Proofs.Ytpiklifnbbhleaa
open Go
set_option linter.unusedVariables false
set_option linter.unusedSimpArgs false

def c_laws_FnExactPlugIn : Ctr where
  modes := [.v .rr]
  al := false
  run := fun xs os => match xs, os with
    | [.rows u], [] => some ⟨u.length ≤ 9223372036854775807 ∧ ∀ xs ∈ u, xs.length ≤ 9223372036854775807, .bool true, [], []⟩
    | _, _ => none
theorem m_laws_FnExactPlugIn : Meets Try.prog 3 c_laws_FnExactPlugIn := by
  refine meets_of (T := tyT) tyOK Try.func3 (by rfl) rfl (by decide) ?_
  intro args owns R hrun hpre
  simp only [c_laws_FnExactPlugIn] at hrun
  split at hrun
  case h_2 => cases hrun
  rename_i u
  cases hrun
  try dsimp only at hpre
  refine ⟨_, rfl, fun E hP hnt hnp => ?_⟩
  replace hnt : E.nt = 69 := hnt
  replace hnp : E.np = 1 := hnp
  have hT : ∀ t d, tyT t = some d → TyOK E.P t d := hP ▸ tyOK
  have hG : ∀ f C, Γof [(5, c_laws_szIntSS), (6, c_spec_PlugIn), (7, c_laws_toIntSSm), (8, c_impl_PlugIn), (9, c_laws_eqIntS), (10, c_laws_eqIntSS), (11, c_laws_markIntSS), (12, c_laws_markIntS), (13, c_laws_heldIntS)] f = some C → Meets E.P f C := hΓof (by rw [hP]; exact ⟨m_laws_szIntSS, m_spec_PlugIn, m_laws_toIntSSm, m_impl_PlugIn, m_laws_eqIntS, m_laws_eqIntSS, m_laws_markIntSS, m_laws_markIntS, m_laws_heldIntS, trivial⟩)
  try simp only [show Try.f3.ntmps = 69 from rfl]
  have hb : ¬ szSS u 1048576 < 0 → (u.length ≤ 1099511627776 ∧ ∀ xs ∈ u, xs.length ≤ 1099511627776) ∧ totTo u 0 u.length ≤ 1099511627776 := fun h => by
    have h2 := szSS_le h
    have h3 := totTo_szSS h
    exact ⟨⟨by omega, fun xs hx => by have := h2.2 xs hx; omega⟩, by omega⟩
  have hl := plugInF_len u
  have hp1 := hpre.1
  have hk1 : (1 : Int) ≤ totTo u 1 u.length := totTo_mono u 1 0 u.length (Nat.zero_le _)
  refine W_seq (fun K1 hK1 => ?_)
  refine W_region hT hG [] [0] ?_
  rw [hnt]
  simp only [baseS, eq_self, implies_true, if_true, if_false, reduceIte, Nat.reduceBEq, Nat.reduceEqDiff, Nat.reduceLT, Nat.reduceAdd, reduceCtorEq, tyInt, tdInt, tyRows, tdRows, tyInts, tdInts, c_laws_szIntSS, c_spec_PlugIn, c_laws_toIntSSm, c_impl_PlugIn, c_laws_eqIntS, c_laws_eqIntSS, c_laws_markIntSS, c_laws_markIntS, c_laws_heldIntS, heldF_mark, markL_len, bne_self_eq_false]
  repeat (refine And.intro ?_ ?_; focus (first | exact ordP (by kernel_rfl) | with_reducible exact rfl | trivial | assumption | exact (hb (by assumption)).1 | exact ⟨⟨by omega, by omega⟩, (hb (by assumption)).1.1, (hb (by assumption)).2⟩ | exact ⟨hpre, by omega, by omega⟩ | exact ⟨by omega, by omega⟩ | exact ⟨⟨by omega, by omega⟩, by omega⟩ | (simp only [inR]; omega) | omega | (have hz1 := (hb (by assumption)).1.1; first | omega | exact ⟨by omega, by omega⟩ | exact ⟨⟨by omega, by omega⟩, by omega⟩ | exact ⟨by omega, by omega, by omega⟩) | (have hz1 := (hb (by assumption)).1; intro hh; (repeat' apply And.intro) <;> first | exact hh | omega | exact hz1.2)))
  refine hK1 _ ?_
  clear hK1
  refine W_seq (fun K2 hK2 => ?_)
  refine W_region hT hG [] [0, 3] ?_
  rw [hnt]
  simp only [baseS, eq_self, implies_true, if_true, if_false, reduceIte, Nat.reduceBEq, Nat.reduceEqDiff, Nat.reduceLT, Nat.reduceAdd, reduceCtorEq, tyInt, tdInt, tyRows, tdRows, tyInts, tdInts, c_laws_szIntSS, c_spec_PlugIn, c_laws_toIntSSm, c_impl_PlugIn, c_laws_eqIntS, c_laws_eqIntSS, c_laws_markIntSS, c_laws_markIntS, c_laws_heldIntS, heldF_mark, markL_len, bne_self_eq_false]
  repeat (refine And.intro ?_ ?_; focus (first | exact ordP (by kernel_rfl) | with_reducible exact rfl | trivial | assumption | exact (hb (by assumption)).1 | exact ⟨⟨by omega, by omega⟩, (hb (by assumption)).1.1, (hb (by assumption)).2⟩ | exact ⟨hpre, by omega, by omega⟩ | exact ⟨by omega, by omega⟩ | exact ⟨⟨by omega, by omega⟩, by omega⟩ | (simp only [inR]; omega) | omega | (have hz1 := (hb (by assumption)).1.1; first | omega | exact ⟨by omega, by omega⟩ | exact ⟨⟨by omega, by omega⟩, by omega⟩ | exact ⟨by omega, by omega, by omega⟩) | (have hz1 := (hb (by assumption)).1; intro hh; (repeat' apply And.intro) <;> first | exact hh | omega | exact hz1.2)))
  refine hK2 _ ?_
  clear hK2
  refine W_seq (fun K3 hK3 => ?_)
  refine W_region hT hG [] [0, 3] ?_
  rw [hnt]
  simp only [baseS, eq_self, implies_true, if_true, if_false, reduceIte, Nat.reduceBEq, Nat.reduceEqDiff, Nat.reduceLT, Nat.reduceAdd, reduceCtorEq, tyInt, tdInt, tyRows, tdRows, tyInts, tdInts, c_laws_szIntSS, c_spec_PlugIn, c_laws_toIntSSm, c_impl_PlugIn, c_laws_eqIntS, c_laws_eqIntSS, c_laws_markIntSS, c_laws_markIntS, c_laws_heldIntS, heldF_mark, markL_len, bne_self_eq_false]
  repeat (refine And.intro ?_ ?_; focus (first | exact ordP (by kernel_rfl) | with_reducible exact rfl | trivial | assumption | exact (hb (by assumption)).1 | exact ⟨⟨by omega, by omega⟩, (hb (by assumption)).1.1, (hb (by assumption)).2⟩ | exact ⟨hpre, by omega, by omega⟩ | exact ⟨by omega, by omega⟩ | exact ⟨⟨by omega, by omega⟩, by omega⟩ | (simp only [inR]; omega) | omega | (have hz1 := (hb (by assumption)).1.1; first | omega | exact ⟨by omega, by omega⟩ | exact ⟨⟨by omega, by omega⟩, by omega⟩ | exact ⟨by omega, by omega, by omega⟩) | (have hz1 := (hb (by assumption)).1; intro hh; (repeat' apply And.intro) <;> first | exact hh | omega | exact hz1.2)))
  refine hK3 _ ?_
  clear hK3
  refine W_seq (fun K4 hK4 => ?_)
  refine W_seq (fun K5 hK5 => ?_)
  refine W_region hT hG [] [0, 15] ?_
  rw [hnt]
  simp only [baseS, eq_self, implies_true, if_true, if_false, reduceIte, Nat.reduceBEq, Nat.reduceEqDiff, Nat.reduceLT, Nat.reduceAdd, reduceCtorEq, tyInt, tdInt, tyRows, tdRows, tyInts, tdInts, c_laws_szIntSS, c_spec_PlugIn, c_laws_toIntSSm, c_impl_PlugIn, c_laws_eqIntS, c_laws_eqIntSS, c_laws_markIntSS, c_laws_markIntS, c_laws_heldIntS, heldF_mark, markL_len, bne_self_eq_false]
  repeat (refine And.intro ?_ ?_; focus (first | exact ordP (by kernel_rfl) | with_reducible exact rfl | trivial | assumption | exact (hb (by assumption)).1 | exact ⟨⟨by omega, by omega⟩, (hb (by assumption)).1.1, (hb (by assumption)).2⟩ | exact ⟨hpre, by omega, by omega⟩ | exact ⟨by omega, by omega⟩ | exact ⟨⟨by omega, by omega⟩, by omega⟩ | (simp only [inR]; omega) | omega | (have hz1 := (hb (by assumption)).1.1; first | omega | exact ⟨by omega, by omega⟩ | exact ⟨⟨by omega, by omega⟩, by omega⟩ | exact ⟨by omega, by omega, by omega⟩) | (have hz1 := (hb (by assumption)).1; intro hh; (repeat' apply And.intro) <;> first | exact hh | omega | exact hz1.2)))
  refine hK5 _ ?_
  clear hK5
  refine W_cond (b := _) rfl (fun hc6 => ?_) (fun hc6 => ?_)
  · try simp only [decide_eq_true_eq, decide_eq_false_iff_not, ne_eq, Decidable.not_not, Bool.not_eq_true', Bool.not_eq_false', Bool.or_eq_true, Bool.and_eq_true, Bool.or_eq_false_iff, Bool.and_eq_false_iff] at hc6
    refine W_seq (fun K7 hK7 => ?_)
    refine W_region hT hG [] [2] ?_
    rw [hnt]
    simp only [baseS, eq_self, implies_true, if_true, if_false, reduceIte, Nat.reduceBEq, Nat.reduceEqDiff, Nat.reduceLT, Nat.reduceAdd, reduceCtorEq, tyInt, tdInt, tyRows, tdRows, tyInts, tdInts, c_laws_szIntSS, c_spec_PlugIn, c_laws_toIntSSm, c_impl_PlugIn, c_laws_eqIntS, c_laws_eqIntSS, c_laws_markIntSS, c_laws_markIntS, c_laws_heldIntS, heldF_mark, markL_len, bne_self_eq_false]
    repeat (refine And.intro ?_ ?_; focus (first | exact ordP (by kernel_rfl) | with_reducible exact rfl | trivial | assumption | exact (hb (by assumption)).1 | exact ⟨⟨by omega, by omega⟩, (hb (by assumption)).1.1, (hb (by assumption)).2⟩ | exact ⟨hpre, by omega, by omega⟩ | exact ⟨by omega, by omega⟩ | exact ⟨⟨by omega, by omega⟩, by omega⟩ | (simp only [inR]; omega) | omega | (have hz1 := (hb (by assumption)).1.1; first | omega | exact ⟨by omega, by omega⟩ | exact ⟨⟨by omega, by omega⟩, by omega⟩ | exact ⟨by omega, by omega, by omega⟩) | (have hz1 := (hb (by assumption)).1; intro hh; (repeat' apply And.intro) <;> first | exact hh | omega | exact hz1.2)))
    refine hK7 _ ?_
    clear hK7
    refine W_ret ?_
    simp only [thenQ, blockQ, loopQ, retQ, reduceIte, Nat.reduceEqDiff]
    refine ret0 ?_ rfl rfl (.inr rfl) rfl
    simp only [show Try.f3.results.toList = [ResultVar.tmp 2] from rfl, resAV, resL, look, Nat.reduceEqDiff, reduceIte, applyUps, noH, isStr, List.length_cons, List.length_nil, Nat.reduceAdd, and_self]
    all_goals (
      first | rfl | (exfalso; omega) | (simp_all; done))
  · try simp only [decide_eq_true_eq, decide_eq_false_iff_not, ne_eq, Decidable.not_not, Bool.not_eq_true', Bool.not_eq_false', Bool.or_eq_true, Bool.and_eq_true, Bool.or_eq_false_iff, Bool.and_eq_false_iff] at hc6
    refine W_skip ?_
    simp only [thenQ, blockQ, loopQ, reduceIte, Nat.reduceEqDiff]
    refine hK4 _ ?_
    clear hK4
    refine W_seq (fun K8 hK8 => ?_)
    refine W_region_mid 2 0 hT hG [] [] [0, 4] ?_
    rw [hnt]
    simp only [baseS, eq_self, implies_true, if_true, if_false, reduceIte, Nat.reduceBEq, Nat.reduceEqDiff, Nat.reduceLT, Nat.reduceAdd, reduceCtorEq, tyInt, tdInt, tyRows, tdRows, tyInts, tdInts, c_laws_szIntSS, c_spec_PlugIn, c_laws_toIntSSm, c_impl_PlugIn, c_laws_eqIntS, c_laws_eqIntSS, c_laws_markIntSS, c_laws_markIntS, c_laws_heldIntS, heldF_mark, markL_len, bne_self_eq_false, List.take_succ_cons, List.take_zero, List.drop_succ_cons, List.drop_zero, List.take_nil, List.drop_nil]
    repeat (refine And.intro ?_ ?_; focus (first | exact ordP (by kernel_rfl) | with_reducible exact rfl | trivial | assumption | exact (hb (by assumption)).1 | exact ⟨⟨by omega, by omega⟩, (hb (by assumption)).1.1, (hb (by assumption)).2⟩ | exact ⟨hpre, by omega, by omega⟩ | exact ⟨by omega, by omega⟩ | exact ⟨⟨by omega, by omega⟩, by omega⟩ | (simp only [inR]; omega) | omega | (have hz1 := (hb (by assumption)).1.1; first | omega | exact ⟨by omega, by omega⟩ | exact ⟨⟨by omega, by omega⟩, by omega⟩ | exact ⟨by omega, by omega, by omega⟩) | (have hz1 := (hb (by assumption)).1; intro hh; (repeat' apply And.intro) <;> first | exact hh | omega | exact hz1.2)))
    refine Mid.intro (hol_freeze (d := 17) rfl rfl) ?_
    try rw [hnt]
    simp only [Mid2, baseS, eq_self, implies_true, if_true, if_false, reduceIte, Nat.reduceBEq, Nat.reduceEqDiff, Nat.reduceLT, Nat.reduceAdd, reduceCtorEq, tyInt, tdInt, tyRows, tdRows, tyInts, tdInts, c_laws_szIntSS, c_spec_PlugIn, c_laws_toIntSSm, c_impl_PlugIn, c_laws_eqIntS, c_laws_eqIntSS, c_laws_markIntSS, c_laws_markIntS, c_laws_heldIntS, heldF_mark, markL_len, bne_self_eq_false, List.take_succ_cons, List.take_zero, List.drop_succ_cons, List.drop_zero, List.take_nil, List.drop_nil]
    repeat (refine And.intro ?_ ?_; focus (first | exact ordP (by kernel_rfl) | with_reducible exact rfl | trivial | assumption | exact (hb (by assumption)).1 | exact ⟨⟨by omega, by omega⟩, (hb (by assumption)).1.1, (hb (by assumption)).2⟩ | exact ⟨hpre, by omega, by omega⟩ | exact ⟨by omega, by omega⟩ | exact ⟨⟨by omega, by omega⟩, by omega⟩ | (simp only [inR]; omega) | omega | (have hz1 := (hb (by assumption)).1.1; first | omega | exact ⟨by omega, by omega⟩ | exact ⟨⟨by omega, by omega⟩, by omega⟩ | exact ⟨by omega, by omega, by omega⟩) | (have hz1 := (hb (by assumption)).1; intro hh; (repeat' apply And.intro) <;> first | exact hh | omega | exact hz1.2)))
    refine hK8 _ ?_
    clear hK8
    refine W_seq (fun K9 hK9 => ?_)
    refine W_region hT hG [] [0, 4, 5] ?_
    rw [hnt]
    simp only [baseS, eq_self, implies_true, if_true, if_false, reduceIte, Nat.reduceBEq, Nat.reduceEqDiff, Nat.reduceLT, Nat.reduceAdd, reduceCtorEq, tyInt, tdInt, tyRows, tdRows, tyInts, tdInts, c_laws_szIntSS, c_spec_PlugIn, c_laws_toIntSSm, c_impl_PlugIn, c_laws_eqIntS, c_laws_eqIntSS, c_laws_markIntSS, c_laws_markIntS, c_laws_heldIntS, heldF_mark, markL_len, bne_self_eq_false]
    repeat (refine And.intro ?_ ?_; focus (first | exact ordP (by kernel_rfl) | with_reducible exact rfl | trivial | assumption | exact (hb (by assumption)).1 | exact ⟨⟨by omega, by omega⟩, (hb (by assumption)).1.1, (hb (by assumption)).2⟩ | exact ⟨hpre, by omega, by omega⟩ | exact ⟨by omega, by omega⟩ | exact ⟨⟨by omega, by omega⟩, by omega⟩ | (simp only [inR]; omega) | omega | (have hz1 := (hb (by assumption)).1.1; first | omega | exact ⟨by omega, by omega⟩ | exact ⟨⟨by omega, by omega⟩, by omega⟩ | exact ⟨by omega, by omega, by omega⟩) | (have hz1 := (hb (by assumption)).1; intro hh; (repeat' apply And.intro) <;> first | exact hh | omega | exact hz1.2)))
    refine hK9 _ ?_
    clear hK9
    refine W_seq (fun K10 hK10 => ?_)
    refine W_region hT hG [] [0, 4, 5, 6] ?_
    rw [hnt]
    simp only [baseS, eq_self, implies_true, if_true, if_false, reduceIte, Nat.reduceBEq, Nat.reduceEqDiff, Nat.reduceLT, Nat.reduceAdd, reduceCtorEq, tyInt, tdInt, tyRows, tdRows, tyInts, tdInts, c_laws_szIntSS, c_spec_PlugIn, c_laws_toIntSSm, c_impl_PlugIn, c_laws_eqIntS, c_laws_eqIntSS, c_laws_markIntSS, c_laws_markIntS, c_laws_heldIntS, heldF_mark, markL_len, bne_self_eq_false]
    repeat (refine And.intro ?_ ?_; focus (first | exact ordP (by kernel_rfl) | with_reducible exact rfl | trivial | assumption | exact (hb (by assumption)).1 | exact ⟨⟨by omega, by omega⟩, (hb (by assumption)).1.1, (hb (by assumption)).2⟩ | exact ⟨hpre, by omega, by omega⟩ | exact ⟨by omega, by omega⟩ | exact ⟨⟨by omega, by omega⟩, by omega⟩ | (simp only [inR]; omega) | omega | (have hz1 := (hb (by assumption)).1.1; first | omega | exact ⟨by omega, by omega⟩ | exact ⟨⟨by omega, by omega⟩, by omega⟩ | exact ⟨by omega, by omega, by omega⟩) | (have hz1 := (hb (by assumption)).1; intro hh; (repeat' apply And.intro) <;> first | exact hh | omega | exact hz1.2)))
    refine hK10 _ ?_
    clear hK10
    refine W_seq (fun K11 hK11 => ?_)
    refine W_seq (fun K12 hK12 => ?_)
    refine W_region hT hG [] [0, 4, 5, 6, 26] ?_
    rw [hnt]
    simp only [baseS, eq_self, implies_true, if_true, if_false, reduceIte, Nat.reduceBEq, Nat.reduceEqDiff, Nat.reduceLT, Nat.reduceAdd, reduceCtorEq, tyInt, tdInt, tyRows, tdRows, tyInts, tdInts, c_laws_szIntSS, c_spec_PlugIn, c_laws_toIntSSm, c_impl_PlugIn, c_laws_eqIntS, c_laws_eqIntSS, c_laws_markIntSS, c_laws_markIntS, c_laws_heldIntS, heldF_mark, markL_len, bne_self_eq_false]
    repeat (refine And.intro ?_ ?_; focus (first | exact ordP (by kernel_rfl) | with_reducible exact rfl | trivial | assumption | exact (hb (by assumption)).1 | exact ⟨⟨by omega, by omega⟩, (hb (by assumption)).1.1, (hb (by assumption)).2⟩ | exact ⟨hpre, by omega, by omega⟩ | exact ⟨by omega, by omega⟩ | exact ⟨⟨by omega, by omega⟩, by omega⟩ | (simp only [inR]; omega) | omega | (have hz1 := (hb (by assumption)).1.1; first | omega | exact ⟨by omega, by omega⟩ | exact ⟨⟨by omega, by omega⟩, by omega⟩ | exact ⟨by omega, by omega, by omega⟩) | (have hz1 := (hb (by assumption)).1; intro hh; (repeat' apply And.intro) <;> first | exact hh | omega | exact hz1.2)))
    refine hK12 _ ?_
    clear hK12
    refine W_cond (b := _) rfl (fun hc13 => ?_) (fun hc13 => ?_)
    · try simp only [decide_eq_true_eq, decide_eq_false_iff_not, ne_eq, Decidable.not_not, Bool.not_eq_true', Bool.not_eq_false', Bool.or_eq_true, Bool.and_eq_true, Bool.or_eq_false_iff, Bool.and_eq_false_iff] at hc13
      refine W_seq (fun K14 hK14 => ?_)
      refine W_region hT hG [] [2] ?_
      rw [hnt]
      simp only [baseS, eq_self, implies_true, if_true, if_false, reduceIte, Nat.reduceBEq, Nat.reduceEqDiff, Nat.reduceLT, Nat.reduceAdd, reduceCtorEq, tyInt, tdInt, tyRows, tdRows, tyInts, tdInts, c_laws_szIntSS, c_spec_PlugIn, c_laws_toIntSSm, c_impl_PlugIn, c_laws_eqIntS, c_laws_eqIntSS, c_laws_markIntSS, c_laws_markIntS, c_laws_heldIntS, heldF_mark, markL_len, bne_self_eq_false]
      repeat (refine And.intro ?_ ?_; focus (first | exact ordP (by kernel_rfl) | with_reducible exact rfl | trivial | assumption | exact (hb (by assumption)).1 | exact ⟨⟨by omega, by omega⟩, (hb (by assumption)).1.1, (hb (by assumption)).2⟩ | exact ⟨hpre, by omega, by omega⟩ | exact ⟨by omega, by omega⟩ | exact ⟨⟨by omega, by omega⟩, by omega⟩ | (simp only [inR]; omega) | omega | (have hz1 := (hb (by assumption)).1.1; first | omega | exact ⟨by omega, by omega⟩ | exact ⟨⟨by omega, by omega⟩, by omega⟩ | exact ⟨by omega, by omega, by omega⟩) | (have hz1 := (hb (by assumption)).1; intro hh; (repeat' apply And.intro) <;> first | exact hh | omega | exact hz1.2)))
      refine hK14 _ ?_
      clear hK14
      refine W_ret ?_
      simp only [thenQ, blockQ, loopQ, retQ, reduceIte, Nat.reduceEqDiff]
      refine ret0 ?_ rfl rfl (.inr rfl) rfl
      simp only [show Try.f3.results.toList = [ResultVar.tmp 2] from rfl, resAV, resL, look, Nat.reduceEqDiff, reduceIte, applyUps, noH, isStr, List.length_cons, List.length_nil, Nat.reduceAdd, and_self]
      all_goals (
        first | rfl | (exfalso; omega) | (simp_all; done))
    · try simp only [decide_eq_true_eq, decide_eq_false_iff_not, ne_eq, Decidable.not_not, Bool.not_eq_true', Bool.not_eq_false', Bool.or_eq_true, Bool.and_eq_true, Bool.or_eq_false_iff, Bool.and_eq_false_iff] at hc13
      refine W_skip ?_
      simp only [thenQ, blockQ, loopQ, reduceIte, Nat.reduceEqDiff]
      refine hK11 _ ?_
      clear hK11
      refine W_seq (fun K15 hK15 => ?_)
      refine W_seq (fun K16 hK16 => ?_)
      refine W_region hT hG [] [0, 4, 5, 6, 31] ?_
      rw [hnt]
      simp only [baseS, eq_self, implies_true, if_true, if_false, reduceIte, Nat.reduceBEq, Nat.reduceEqDiff, Nat.reduceLT, Nat.reduceAdd, reduceCtorEq, tyInt, tdInt, tyRows, tdRows, tyInts, tdInts, c_laws_szIntSS, c_spec_PlugIn, c_laws_toIntSSm, c_impl_PlugIn, c_laws_eqIntS, c_laws_eqIntSS, c_laws_markIntSS, c_laws_markIntS, c_laws_heldIntS, heldF_mark, markL_len, bne_self_eq_false]
      repeat (refine And.intro ?_ ?_; focus (first | exact ordP (by kernel_rfl) | with_reducible exact rfl | trivial | assumption | exact (hb (by assumption)).1 | exact ⟨⟨by omega, by omega⟩, (hb (by assumption)).1.1, (hb (by assumption)).2⟩ | exact ⟨hpre, by omega, by omega⟩ | exact ⟨by omega, by omega⟩ | exact ⟨⟨by omega, by omega⟩, by omega⟩ | (simp only [inR]; omega) | omega | (have hz1 := (hb (by assumption)).1.1; first | omega | exact ⟨by omega, by omega⟩ | exact ⟨⟨by omega, by omega⟩, by omega⟩ | exact ⟨by omega, by omega, by omega⟩) | (have hz1 := (hb (by assumption)).1; intro hh; (repeat' apply And.intro) <;> first | exact hh | omega | exact hz1.2)))
      refine hK16 _ ?_
      clear hK16
      refine W_cond (b := _) rfl (fun hc17 => ?_) (fun hc17 => ?_)
      · try simp only [decide_eq_true_eq, decide_eq_false_iff_not, ne_eq, Decidable.not_not, Bool.not_eq_true', Bool.not_eq_false', Bool.or_eq_true, Bool.and_eq_true, Bool.or_eq_false_iff, Bool.and_eq_false_iff] at hc17
        refine W_seq (fun K18 hK18 => ?_)
        refine W_region hT hG [] [2] ?_
        rw [hnt]
        simp only [baseS, eq_self, implies_true, if_true, if_false, reduceIte, Nat.reduceBEq, Nat.reduceEqDiff, Nat.reduceLT, Nat.reduceAdd, reduceCtorEq, tyInt, tdInt, tyRows, tdRows, tyInts, tdInts, c_laws_szIntSS, c_spec_PlugIn, c_laws_toIntSSm, c_impl_PlugIn, c_laws_eqIntS, c_laws_eqIntSS, c_laws_markIntSS, c_laws_markIntS, c_laws_heldIntS, heldF_mark, markL_len, bne_self_eq_false]
        repeat (refine And.intro ?_ ?_; focus (first | exact ordP (by kernel_rfl) | with_reducible exact rfl | trivial | assumption | exact (hb (by assumption)).1 | exact ⟨⟨by omega, by omega⟩, (hb (by assumption)).1.1, (hb (by assumption)).2⟩ | exact ⟨hpre, by omega, by omega⟩ | exact ⟨by omega, by omega⟩ | exact ⟨⟨by omega, by omega⟩, by omega⟩ | (simp only [inR]; omega) | omega | (have hz1 := (hb (by assumption)).1.1; first | omega | exact ⟨by omega, by omega⟩ | exact ⟨⟨by omega, by omega⟩, by omega⟩ | exact ⟨by omega, by omega, by omega⟩) | (have hz1 := (hb (by assumption)).1; intro hh; (repeat' apply And.intro) <;> first | exact hh | omega | exact hz1.2)))
        refine hK18 _ ?_
        clear hK18
        refine W_ret ?_
        simp only [thenQ, blockQ, loopQ, retQ, reduceIte, Nat.reduceEqDiff]
        refine ret0 ?_ rfl rfl (.inr rfl) rfl
        simp only [show Try.f3.results.toList = [ResultVar.tmp 2] from rfl, resAV, resL, look, Nat.reduceEqDiff, reduceIte, applyUps, noH, isStr, List.length_cons, List.length_nil, Nat.reduceAdd, and_self]
        all_goals (
          first | rfl | (exfalso; omega) | (simp_all; done))
      · try simp only [decide_eq_true_eq, decide_eq_false_iff_not, ne_eq, Decidable.not_not, Bool.not_eq_true', Bool.not_eq_false', Bool.or_eq_true, Bool.and_eq_true, Bool.or_eq_false_iff, Bool.and_eq_false_iff] at hc17
        refine W_skip ?_
        simp only [thenQ, blockQ, loopQ, reduceIte, Nat.reduceEqDiff]
        refine hK15 _ ?_
        clear hK15
        refine W_seq (fun K19 hK19 => ?_)
        refine W_region hT hG [] [0, 4, 5, 6, 7] ?_
        rw [hnt]
        simp only [baseS, eq_self, implies_true, if_true, if_false, reduceIte, Nat.reduceBEq, Nat.reduceEqDiff, Nat.reduceLT, Nat.reduceAdd, reduceCtorEq, tyInt, tdInt, tyRows, tdRows, tyInts, tdInts, c_laws_szIntSS, c_spec_PlugIn, c_laws_toIntSSm, c_impl_PlugIn, c_laws_eqIntS, c_laws_eqIntSS, c_laws_markIntSS, c_laws_markIntS, c_laws_heldIntS, heldF_mark, markL_len, bne_self_eq_false]
        repeat (refine And.intro ?_ ?_; focus (first | exact ordP (by kernel_rfl) | with_reducible exact rfl | trivial | assumption | exact (hb (by assumption)).1 | exact ⟨⟨by omega, by omega⟩, (hb (by assumption)).1.1, (hb (by assumption)).2⟩ | exact ⟨hpre, by omega, by omega⟩ | exact ⟨by omega, by omega⟩ | exact ⟨⟨by omega, by omega⟩, by omega⟩ | (simp only [inR]; omega) | omega | (have hz1 := (hb (by assumption)).1.1; first | omega | exact ⟨by omega, by omega⟩ | exact ⟨⟨by omega, by omega⟩, by omega⟩ | exact ⟨by omega, by omega, by omega⟩) | (have hz1 := (hb (by assumption)).1; intro hh; (repeat' apply And.intro) <;> first | exact hh | omega | exact hz1.2)))
        refine hK19 _ ?_
        clear hK19
        refine W_seq (fun K20 hK20 => ?_)
        refine W_region hT hG [] [0, 4, 6, 7] ?_
        rw [hnt]
        simp only [baseS, eq_self, implies_true, if_true, if_false, reduceIte, Nat.reduceBEq, Nat.reduceEqDiff, Nat.reduceLT, Nat.reduceAdd, reduceCtorEq, tyInt, tdInt, tyRows, tdRows, tyInts, tdInts, c_laws_szIntSS, c_spec_PlugIn, c_laws_toIntSSm, c_impl_PlugIn, c_laws_eqIntS, c_laws_eqIntSS, c_laws_markIntSS, c_laws_markIntS, c_laws_heldIntS, heldF_mark, markL_len, bne_self_eq_false]
        repeat (refine And.intro ?_ ?_; focus (first | exact ordP (by kernel_rfl) | with_reducible exact rfl | trivial | assumption | exact (hb (by assumption)).1 | exact ⟨⟨by omega, by omega⟩, (hb (by assumption)).1.1, (hb (by assumption)).2⟩ | exact ⟨hpre, by omega, by omega⟩ | exact ⟨by omega, by omega⟩ | exact ⟨⟨by omega, by omega⟩, by omega⟩ | (simp only [inR]; omega) | omega | (have hz1 := (hb (by assumption)).1.1; first | omega | exact ⟨by omega, by omega⟩ | exact ⟨⟨by omega, by omega⟩, by omega⟩ | exact ⟨by omega, by omega, by omega⟩) | (have hz1 := (hb (by assumption)).1; intro hh; (repeat' apply And.intro) <;> first | exact hh | omega | exact hz1.2)))
        refine hK20 _ ?_
        clear hK20
        refine W_seq (fun K21 hK21 => ?_)
        refine W_seq (fun K22 hK22 => ?_)
        refine W_region hT hG [] [0, 4, 6, 42] ?_
        rw [hnt]
        simp only [baseS, eq_self, implies_true, if_true, if_false, reduceIte, Nat.reduceBEq, Nat.reduceEqDiff, Nat.reduceLT, Nat.reduceAdd, reduceCtorEq, tyInt, tdInt, tyRows, tdRows, tyInts, tdInts, c_laws_szIntSS, c_spec_PlugIn, c_laws_toIntSSm, c_impl_PlugIn, c_laws_eqIntS, c_laws_eqIntSS, c_laws_markIntSS, c_laws_markIntS, c_laws_heldIntS, heldF_mark, markL_len, bne_self_eq_false]
        repeat (refine And.intro ?_ ?_; focus (first | exact ordP (by kernel_rfl) | with_reducible exact rfl | trivial | assumption | exact (hb (by assumption)).1 | exact ⟨⟨by omega, by omega⟩, (hb (by assumption)).1.1, (hb (by assumption)).2⟩ | exact ⟨hpre, by omega, by omega⟩ | exact ⟨by omega, by omega⟩ | exact ⟨⟨by omega, by omega⟩, by omega⟩ | (simp only [inR]; omega) | omega | (have hz1 := (hb (by assumption)).1.1; first | omega | exact ⟨by omega, by omega⟩ | exact ⟨⟨by omega, by omega⟩, by omega⟩ | exact ⟨by omega, by omega, by omega⟩) | (have hz1 := (hb (by assumption)).1; intro hh; (repeat' apply And.intro) <;> first | exact hh | omega | exact hz1.2)))
        refine hK22 _ ?_
        clear hK22
        refine W_cond (b := _) rfl (fun hc23 => ?_) (fun hc23 => ?_)
        · try simp only [decide_eq_true_eq, decide_eq_false_iff_not, ne_eq, Decidable.not_not, Bool.not_eq_true', Bool.not_eq_false', Bool.or_eq_true, Bool.and_eq_true, Bool.or_eq_false_iff, Bool.and_eq_false_iff] at hc23
          refine W_seq (fun K24 hK24 => ?_)
          refine W_region hT hG [] [2] ?_
          rw [hnt]
          simp only [baseS, eq_self, implies_true, if_true, if_false, reduceIte, Nat.reduceBEq, Nat.reduceEqDiff, Nat.reduceLT, Nat.reduceAdd, reduceCtorEq, tyInt, tdInt, tyRows, tdRows, tyInts, tdInts, c_laws_szIntSS, c_spec_PlugIn, c_laws_toIntSSm, c_impl_PlugIn, c_laws_eqIntS, c_laws_eqIntSS, c_laws_markIntSS, c_laws_markIntS, c_laws_heldIntS, heldF_mark, markL_len, bne_self_eq_false]
          repeat (refine And.intro ?_ ?_; focus (first | exact ordP (by kernel_rfl) | with_reducible exact rfl | trivial | assumption | exact (hb (by assumption)).1 | exact ⟨⟨by omega, by omega⟩, (hb (by assumption)).1.1, (hb (by assumption)).2⟩ | exact ⟨hpre, by omega, by omega⟩ | exact ⟨by omega, by omega⟩ | exact ⟨⟨by omega, by omega⟩, by omega⟩ | (simp only [inR]; omega) | omega | (have hz1 := (hb (by assumption)).1.1; first | omega | exact ⟨by omega, by omega⟩ | exact ⟨⟨by omega, by omega⟩, by omega⟩ | exact ⟨by omega, by omega, by omega⟩) | (have hz1 := (hb (by assumption)).1; intro hh; (repeat' apply And.intro) <;> first | exact hh | omega | exact hz1.2)))
          refine hK24 _ ?_
          clear hK24
          refine W_ret ?_
          simp only [thenQ, blockQ, loopQ, retQ, reduceIte, Nat.reduceEqDiff]
          refine ret0 ?_ rfl rfl (.inr rfl) rfl
          simp only [show Try.f3.results.toList = [ResultVar.tmp 2] from rfl, resAV, resL, look, Nat.reduceEqDiff, reduceIte, applyUps, noH, isStr, List.length_cons, List.length_nil, Nat.reduceAdd, and_self]
          all_goals (
            first | rfl | (exfalso; omega) | (simp_all; done))
        · try simp only [decide_eq_true_eq, decide_eq_false_iff_not, ne_eq, Decidable.not_not, Bool.not_eq_true', Bool.not_eq_false', Bool.or_eq_true, Bool.and_eq_true, Bool.or_eq_false_iff, Bool.and_eq_false_iff] at hc23
          refine W_skip ?_
          simp only [thenQ, blockQ, loopQ, reduceIte, Nat.reduceEqDiff]
          refine hK21 _ ?_
          clear hK21
          refine W_seq (fun K25 hK25 => ?_)
          refine W_region hT hG [] [0, 4, 6, 8] ?_
          rw [hnt]
          simp only [baseS, eq_self, implies_true, if_true, if_false, reduceIte, Nat.reduceBEq, Nat.reduceEqDiff, Nat.reduceLT, Nat.reduceAdd, reduceCtorEq, tyInt, tdInt, tyRows, tdRows, tyInts, tdInts, c_laws_szIntSS, c_spec_PlugIn, c_laws_toIntSSm, c_impl_PlugIn, c_laws_eqIntS, c_laws_eqIntSS, c_laws_markIntSS, c_laws_markIntS, c_laws_heldIntS, heldF_mark, markL_len, bne_self_eq_false]
          repeat (refine And.intro ?_ ?_; focus (first | exact ordP (by kernel_rfl) | with_reducible exact rfl | trivial | assumption | exact (hb (by assumption)).1 | exact ⟨⟨by omega, by omega⟩, (hb (by assumption)).1.1, (hb (by assumption)).2⟩ | exact ⟨hpre, by omega, by omega⟩ | exact ⟨by omega, by omega⟩ | exact ⟨⟨by omega, by omega⟩, by omega⟩ | (simp only [inR]; omega) | omega | (have hz1 := (hb (by assumption)).1.1; first | omega | exact ⟨by omega, by omega⟩ | exact ⟨⟨by omega, by omega⟩, by omega⟩ | exact ⟨by omega, by omega, by omega⟩) | (have hz1 := (hb (by assumption)).1; intro hh; (repeat' apply And.intro) <;> first | exact hh | omega | exact hz1.2)))
          refine hK25 _ ?_
          clear hK25
          refine W_seq (fun K26 hK26 => ?_)
          refine W_region hT hG [] [0, 4, 6, 8] ?_
          rw [hnt]
          simp only [baseS, eq_self, implies_true, if_true, if_false, reduceIte, Nat.reduceBEq, Nat.reduceEqDiff, Nat.reduceLT, Nat.reduceAdd, reduceCtorEq, tyInt, tdInt, tyRows, tdRows, tyInts, tdInts, c_laws_szIntSS, c_spec_PlugIn, c_laws_toIntSSm, c_impl_PlugIn, c_laws_eqIntS, c_laws_eqIntSS, c_laws_markIntSS, c_laws_markIntS, c_laws_heldIntS, heldF_mark, markL_len, bne_self_eq_false]
          repeat (refine And.intro ?_ ?_; focus (first | exact ordP (by kernel_rfl) | with_reducible exact rfl | trivial | assumption | exact (hb (by assumption)).1 | exact ⟨⟨by omega, by omega⟩, (hb (by assumption)).1.1, (hb (by assumption)).2⟩ | exact ⟨hpre, by omega, by omega⟩ | exact ⟨by omega, by omega⟩ | exact ⟨⟨by omega, by omega⟩, by omega⟩ | (simp only [inR]; omega) | omega | (have hz1 := (hb (by assumption)).1.1; first | omega | exact ⟨by omega, by omega⟩ | exact ⟨⟨by omega, by omega⟩, by omega⟩ | exact ⟨by omega, by omega, by omega⟩) | (have hz1 := (hb (by assumption)).1; intro hh; (repeat' apply And.intro) <;> first | exact hh | omega | exact hz1.2)))
          refine hK26 _ ?_
          clear hK26
          refine W_seq (fun K27 hK27 => ?_)
          refine W_region hT hG [] [0, 4, 6, 8, 9] ?_
          rw [hnt]
          simp only [baseS, eq_self, implies_true, if_true, if_false, reduceIte, Nat.reduceBEq, Nat.reduceEqDiff, Nat.reduceLT, Nat.reduceAdd, reduceCtorEq, tyInt, tdInt, tyRows, tdRows, tyInts, tdInts, c_laws_szIntSS, c_spec_PlugIn, c_laws_toIntSSm, c_impl_PlugIn, c_laws_eqIntS, c_laws_eqIntSS, c_laws_markIntSS, c_laws_markIntS, c_laws_heldIntS, heldF_mark, markL_len, bne_self_eq_false]
          repeat (refine And.intro ?_ ?_; focus (first | exact ordP (by kernel_rfl) | with_reducible exact rfl | trivial | assumption | exact (hb (by assumption)).1 | exact ⟨⟨by omega, by omega⟩, (hb (by assumption)).1.1, (hb (by assumption)).2⟩ | exact ⟨hpre, by omega, by omega⟩ | exact ⟨by omega, by omega⟩ | exact ⟨⟨by omega, by omega⟩, by omega⟩ | (simp only [inR]; omega) | omega | (have hz1 := (hb (by assumption)).1.1; first | omega | exact ⟨by omega, by omega⟩ | exact ⟨⟨by omega, by omega⟩, by omega⟩ | exact ⟨by omega, by omega, by omega⟩) | (have hz1 := (hb (by assumption)).1; intro hh; (repeat' apply And.intro) <;> first | exact hh | omega | exact hz1.2)))
          refine hK27 _ ?_
          clear hK27
          refine W_seq (fun K28 hK28 => ?_)
          refine W_region hT hG [] [0, 4, 6, 8, 9] ?_
          rw [hnt]
          simp only [baseS, eq_self, implies_true, if_true, if_false, reduceIte, Nat.reduceBEq, Nat.reduceEqDiff, Nat.reduceLT, Nat.reduceAdd, reduceCtorEq, tyInt, tdInt, tyRows, tdRows, tyInts, tdInts, c_laws_szIntSS, c_spec_PlugIn, c_laws_toIntSSm, c_impl_PlugIn, c_laws_eqIntS, c_laws_eqIntSS, c_laws_markIntSS, c_laws_markIntS, c_laws_heldIntS, heldF_mark, markL_len, bne_self_eq_false]
          repeat (refine And.intro ?_ ?_; focus (first | exact ordP (by kernel_rfl) | with_reducible exact rfl | trivial | assumption | exact (hb (by assumption)).1 | exact ⟨⟨by omega, by omega⟩, (hb (by assumption)).1.1, (hb (by assumption)).2⟩ | exact ⟨hpre, by omega, by omega⟩ | exact ⟨by omega, by omega⟩ | exact ⟨⟨by omega, by omega⟩, by omega⟩ | (simp only [inR]; omega) | omega | (have hz1 := (hb (by assumption)).1.1; first | omega | exact ⟨by omega, by omega⟩ | exact ⟨⟨by omega, by omega⟩, by omega⟩ | exact ⟨by omega, by omega, by omega⟩) | (have hz1 := (hb (by assumption)).1; intro hh; (repeat' apply And.intro) <;> first | exact hh | omega | exact hz1.2)))
          refine hK28 _ ?_
          clear hK28
          refine W_seq (fun K29 hK29 => ?_)
          refine W_seq (fun K30 hK30 => ?_)
          refine W_region hT hG [] [0, 4, 6, 8, 9, 50] ?_
          rw [hnt]
          simp only [baseS, eq_self, implies_true, if_true, if_false, reduceIte, Nat.reduceBEq, Nat.reduceEqDiff, Nat.reduceLT, Nat.reduceAdd, reduceCtorEq, tyInt, tdInt, tyRows, tdRows, tyInts, tdInts, c_laws_szIntSS, c_spec_PlugIn, c_laws_toIntSSm, c_impl_PlugIn, c_laws_eqIntS, c_laws_eqIntSS, c_laws_markIntSS, c_laws_markIntS, c_laws_heldIntS, heldF_mark, markL_len, bne_self_eq_false]
          repeat (refine And.intro ?_ ?_; focus (first | exact ordP (by kernel_rfl) | with_reducible exact rfl | trivial | assumption | exact (hb (by assumption)).1 | exact ⟨⟨by omega, by omega⟩, (hb (by assumption)).1.1, (hb (by assumption)).2⟩ | exact ⟨hpre, by omega, by omega⟩ | exact ⟨by omega, by omega⟩ | exact ⟨⟨by omega, by omega⟩, by omega⟩ | (simp only [inR]; omega) | omega | (have hz1 := (hb (by assumption)).1.1; first | omega | exact ⟨by omega, by omega⟩ | exact ⟨⟨by omega, by omega⟩, by omega⟩ | exact ⟨by omega, by omega, by omega⟩) | (have hz1 := (hb (by assumption)).1; intro hh; (repeat' apply And.intro) <;> first | exact hh | omega | exact hz1.2)))
          refine hK30 _ ?_
          clear hK30
          refine W_cond (b := _) rfl (fun hc31 => ?_) (fun hc31 => ?_)
          · try simp only [decide_eq_true_eq, decide_eq_false_iff_not, ne_eq, Decidable.not_not, Bool.not_eq_true', Bool.not_eq_false', Bool.or_eq_true, Bool.and_eq_true, Bool.or_eq_false_iff, Bool.and_eq_false_iff] at hc31
            refine W_seq (fun K32 hK32 => ?_)
            refine W_region hT hG [] [2] ?_
            rw [hnt]
            simp only [baseS, eq_self, implies_true, if_true, if_false, reduceIte, Nat.reduceBEq, Nat.reduceEqDiff, Nat.reduceLT, Nat.reduceAdd, reduceCtorEq, tyInt, tdInt, tyRows, tdRows, tyInts, tdInts, c_laws_szIntSS, c_spec_PlugIn, c_laws_toIntSSm, c_impl_PlugIn, c_laws_eqIntS, c_laws_eqIntSS, c_laws_markIntSS, c_laws_markIntS, c_laws_heldIntS, heldF_mark, markL_len, bne_self_eq_false]
            repeat (refine And.intro ?_ ?_; focus (first | exact ordP (by kernel_rfl) | with_reducible exact rfl | trivial | assumption | exact (hb (by assumption)).1 | exact ⟨⟨by omega, by omega⟩, (hb (by assumption)).1.1, (hb (by assumption)).2⟩ | exact ⟨hpre, by omega, by omega⟩ | exact ⟨by omega, by omega⟩ | exact ⟨⟨by omega, by omega⟩, by omega⟩ | (simp only [inR]; omega) | omega | (have hz1 := (hb (by assumption)).1.1; first | omega | exact ⟨by omega, by omega⟩ | exact ⟨⟨by omega, by omega⟩, by omega⟩ | exact ⟨by omega, by omega, by omega⟩) | (have hz1 := (hb (by assumption)).1; intro hh; (repeat' apply And.intro) <;> first | exact hh | omega | exact hz1.2)))
            refine hK32 _ ?_
            clear hK32
            refine W_ret ?_
            simp only [thenQ, blockQ, loopQ, retQ, reduceIte, Nat.reduceEqDiff]
            refine ret0 ?_ rfl rfl (.inr rfl) rfl
            simp only [show Try.f3.results.toList = [ResultVar.tmp 2] from rfl, resAV, resL, look, Nat.reduceEqDiff, reduceIte, applyUps, noH, isStr, List.length_cons, List.length_nil, Nat.reduceAdd, and_self]
            all_goals (
              first | rfl | (exfalso; omega) | (simp_all; done))
          · try simp only [decide_eq_true_eq, decide_eq_false_iff_not, ne_eq, Decidable.not_not, Bool.not_eq_true', Bool.not_eq_false', Bool.or_eq_true, Bool.and_eq_true, Bool.or_eq_false_iff, Bool.and_eq_false_iff] at hc31
            refine W_skip ?_
            simp only [thenQ, blockQ, loopQ, reduceIte, Nat.reduceEqDiff]
            refine hK29 _ ?_
            clear hK29
            refine W_seq (fun K33 hK33 => ?_)
            refine W_seq (fun K34 hK34 => ?_)
            refine W_region hT hG [] [0, 4, 6, 8, 53] ?_
            rw [hnt]
            simp only [baseS, eq_self, implies_true, if_true, if_false, reduceIte, Nat.reduceBEq, Nat.reduceEqDiff, Nat.reduceLT, Nat.reduceAdd, reduceCtorEq, tyInt, tdInt, tyRows, tdRows, tyInts, tdInts, c_laws_szIntSS, c_spec_PlugIn, c_laws_toIntSSm, c_impl_PlugIn, c_laws_eqIntS, c_laws_eqIntSS, c_laws_markIntSS, c_laws_markIntS, c_laws_heldIntS, heldF_mark, markL_len, bne_self_eq_false]
            repeat (refine And.intro ?_ ?_; focus (first | exact ordP (by kernel_rfl) | with_reducible exact rfl | trivial | assumption | exact (hb (by assumption)).1 | exact ⟨⟨by omega, by omega⟩, (hb (by assumption)).1.1, (hb (by assumption)).2⟩ | exact ⟨hpre, by omega, by omega⟩ | exact ⟨by omega, by omega⟩ | exact ⟨⟨by omega, by omega⟩, by omega⟩ | (simp only [inR]; omega) | omega | (have hz1 := (hb (by assumption)).1.1; first | omega | exact ⟨by omega, by omega⟩ | exact ⟨⟨by omega, by omega⟩, by omega⟩ | exact ⟨by omega, by omega, by omega⟩) | (have hz1 := (hb (by assumption)).1; intro hh; (repeat' apply And.intro) <;> first | exact hh | omega | exact hz1.2)))
            refine hK34 _ ?_
            clear hK34
            refine W_cond (b := _) rfl (fun hc35 => ?_) (fun hc35 => ?_)
            · try simp only [decide_eq_true_eq, decide_eq_false_iff_not, ne_eq, Decidable.not_not, Bool.not_eq_true', Bool.not_eq_false', Bool.or_eq_true, Bool.and_eq_true, Bool.or_eq_false_iff, Bool.and_eq_false_iff] at hc35
              refine W_seq (fun K36 hK36 => ?_)
              refine W_region hT hG [] [2] ?_
              rw [hnt]
              simp only [baseS, eq_self, implies_true, if_true, if_false, reduceIte, Nat.reduceBEq, Nat.reduceEqDiff, Nat.reduceLT, Nat.reduceAdd, reduceCtorEq, tyInt, tdInt, tyRows, tdRows, tyInts, tdInts, c_laws_szIntSS, c_spec_PlugIn, c_laws_toIntSSm, c_impl_PlugIn, c_laws_eqIntS, c_laws_eqIntSS, c_laws_markIntSS, c_laws_markIntS, c_laws_heldIntS, heldF_mark, markL_len, bne_self_eq_false]
              repeat (refine And.intro ?_ ?_; focus (first | exact ordP (by kernel_rfl) | with_reducible exact rfl | trivial | assumption | exact (hb (by assumption)).1 | exact ⟨⟨by omega, by omega⟩, (hb (by assumption)).1.1, (hb (by assumption)).2⟩ | exact ⟨hpre, by omega, by omega⟩ | exact ⟨by omega, by omega⟩ | exact ⟨⟨by omega, by omega⟩, by omega⟩ | (simp only [inR]; omega) | omega | (have hz1 := (hb (by assumption)).1.1; first | omega | exact ⟨by omega, by omega⟩ | exact ⟨⟨by omega, by omega⟩, by omega⟩ | exact ⟨by omega, by omega, by omega⟩) | (have hz1 := (hb (by assumption)).1; intro hh; (repeat' apply And.intro) <;> first | exact hh | omega | exact hz1.2)))
              refine hK36 _ ?_
              clear hK36
              refine W_ret ?_
              simp only [thenQ, blockQ, loopQ, retQ, reduceIte, Nat.reduceEqDiff]
              refine ret0 ?_ rfl rfl (.inr rfl) rfl
              simp only [show Try.f3.results.toList = [ResultVar.tmp 2] from rfl, resAV, resL, look, Nat.reduceEqDiff, reduceIte, applyUps, noH, isStr, List.length_cons, List.length_nil, Nat.reduceAdd, and_self]
              all_goals (
                first | rfl | (exfalso; omega) | (simp_all; done))
            · try simp only [decide_eq_true_eq, decide_eq_false_iff_not, ne_eq, Decidable.not_not, Bool.not_eq_true', Bool.not_eq_false', Bool.or_eq_true, Bool.and_eq_true, Bool.or_eq_false_iff, Bool.and_eq_false_iff] at hc35
              refine W_skip ?_
              simp only [thenQ, blockQ, loopQ, reduceIte, Nat.reduceEqDiff]
              refine hK33 _ ?_
              clear hK33
              refine W_seq (fun K37 hK37 => ?_)
              refine W_region hT hG [] [4, 6, 8, 10] ?_
              rw [hnt]
              simp only [baseS, eq_self, implies_true, if_true, if_false, reduceIte, Nat.reduceBEq, Nat.reduceEqDiff, Nat.reduceLT, Nat.reduceAdd, reduceCtorEq, tyInt, tdInt, tyRows, tdRows, tyInts, tdInts, c_laws_szIntSS, c_spec_PlugIn, c_laws_toIntSSm, c_impl_PlugIn, c_laws_eqIntS, c_laws_eqIntSS, c_laws_markIntSS, c_laws_markIntS, c_laws_heldIntS, heldF_mark, markL_len, bne_self_eq_false]
              repeat (refine And.intro ?_ ?_; focus (first | exact ordP (by kernel_rfl) | with_reducible exact rfl | trivial | assumption | exact (hb (by assumption)).1 | exact ⟨⟨by omega, by omega⟩, (hb (by assumption)).1.1, (hb (by assumption)).2⟩ | exact ⟨hpre, by omega, by omega⟩ | exact ⟨by omega, by omega⟩ | exact ⟨⟨by omega, by omega⟩, by omega⟩ | (simp only [inR]; omega) | omega | (have hz1 := (hb (by assumption)).1.1; first | omega | exact ⟨by omega, by omega⟩ | exact ⟨⟨by omega, by omega⟩, by omega⟩ | exact ⟨by omega, by omega, by omega⟩) | (have hz1 := (hb (by assumption)).1; intro hh; (repeat' apply And.intro) <;> first | exact hh | omega | exact hz1.2)))
              refine hK37 _ ?_
              clear hK37
              refine W_seq (fun K38 hK38 => ?_)
              refine W_seq (fun K39 hK39 => ?_)
              refine W_region hT hG [] [6, 8, 60] ?_
              rw [hnt]
              simp only [baseS, eq_self, implies_true, if_true, if_false, reduceIte, Nat.reduceBEq, Nat.reduceEqDiff, Nat.reduceLT, Nat.reduceAdd, reduceCtorEq, tyInt, tdInt, tyRows, tdRows, tyInts, tdInts, c_laws_szIntSS, c_spec_PlugIn, c_laws_toIntSSm, c_impl_PlugIn, c_laws_eqIntS, c_laws_eqIntSS, c_laws_markIntSS, c_laws_markIntS, c_laws_heldIntS, heldF_mark, markL_len, bne_self_eq_false]
              repeat (refine And.intro ?_ ?_; focus (first | exact ordP (by kernel_rfl) | with_reducible exact rfl | trivial | assumption | exact (hb (by assumption)).1 | exact ⟨⟨by omega, by omega⟩, (hb (by assumption)).1.1, (hb (by assumption)).2⟩ | exact ⟨hpre, by omega, by omega⟩ | exact ⟨by omega, by omega⟩ | exact ⟨⟨by omega, by omega⟩, by omega⟩ | (simp only [inR]; omega) | omega | (have hz1 := (hb (by assumption)).1.1; first | omega | exact ⟨by omega, by omega⟩ | exact ⟨⟨by omega, by omega⟩, by omega⟩ | exact ⟨by omega, by omega, by omega⟩) | (have hz1 := (hb (by assumption)).1; intro hh; (repeat' apply And.intro) <;> first | exact hh | omega | exact hz1.2)))
              refine hK39 _ ?_
              clear hK39
              refine W_cond (b := _) rfl (fun hc40 => ?_) (fun hc40 => ?_)
              · try simp only [decide_eq_true_eq, decide_eq_false_iff_not, ne_eq, Decidable.not_not, Bool.not_eq_true', Bool.not_eq_false', Bool.or_eq_true, Bool.and_eq_true, Bool.or_eq_false_iff, Bool.and_eq_false_iff] at hc40
                refine W_seq (fun K41 hK41 => ?_)
                refine W_region hT hG [] [2] ?_
                rw [hnt]
                simp only [baseS, eq_self, implies_true, if_true, if_false, reduceIte, Nat.reduceBEq, Nat.reduceEqDiff, Nat.reduceLT, Nat.reduceAdd, reduceCtorEq, tyInt, tdInt, tyRows, tdRows, tyInts, tdInts, c_laws_szIntSS, c_spec_PlugIn, c_laws_toIntSSm, c_impl_PlugIn, c_laws_eqIntS, c_laws_eqIntSS, c_laws_markIntSS, c_laws_markIntS, c_laws_heldIntS, heldF_mark, markL_len, bne_self_eq_false]
                repeat (refine And.intro ?_ ?_; focus (first | exact ordP (by kernel_rfl) | with_reducible exact rfl | trivial | assumption | exact (hb (by assumption)).1 | exact ⟨⟨by omega, by omega⟩, (hb (by assumption)).1.1, (hb (by assumption)).2⟩ | exact ⟨hpre, by omega, by omega⟩ | exact ⟨by omega, by omega⟩ | exact ⟨⟨by omega, by omega⟩, by omega⟩ | (simp only [inR]; omega) | omega | (have hz1 := (hb (by assumption)).1.1; first | omega | exact ⟨by omega, by omega⟩ | exact ⟨⟨by omega, by omega⟩, by omega⟩ | exact ⟨by omega, by omega, by omega⟩) | (have hz1 := (hb (by assumption)).1; intro hh; (repeat' apply And.intro) <;> first | exact hh | omega | exact hz1.2)))
                refine hK41 _ ?_
                clear hK41
                refine W_ret ?_
                simp only [thenQ, blockQ, loopQ, retQ, reduceIte, Nat.reduceEqDiff]
                refine ret0 ?_ rfl rfl (.inr rfl) rfl
                simp only [show Try.f3.results.toList = [ResultVar.tmp 2] from rfl, resAV, resL, look, Nat.reduceEqDiff, reduceIte, applyUps, noH, isStr, List.length_cons, List.length_nil, Nat.reduceAdd, and_self]
                all_goals (
                  first | rfl | (exfalso; omega) | (simp_all; done))
              · try simp only [decide_eq_true_eq, decide_eq_false_iff_not, ne_eq, Decidable.not_not, Bool.not_eq_true', Bool.not_eq_false', Bool.or_eq_true, Bool.and_eq_true, Bool.or_eq_false_iff, Bool.and_eq_false_iff] at hc40
                refine W_skip ?_
                simp only [thenQ, blockQ, loopQ, reduceIte, Nat.reduceEqDiff]
                refine hK38 _ ?_
                clear hK38
                refine W_seq (fun K42 hK42 => ?_)
                refine W_region hT hG [] [6, 8, 9] ?_
                rw [hnt]
                simp only [baseS, eq_self, implies_true, if_true, if_false, reduceIte, Nat.reduceBEq, Nat.reduceEqDiff, Nat.reduceLT, Nat.reduceAdd, reduceCtorEq, tyInt, tdInt, tyRows, tdRows, tyInts, tdInts, c_laws_szIntSS, c_spec_PlugIn, c_laws_toIntSSm, c_impl_PlugIn, c_laws_eqIntS, c_laws_eqIntSS, c_laws_markIntSS, c_laws_markIntS, c_laws_heldIntS, heldF_mark, markL_len, bne_self_eq_false]
                repeat (refine And.intro ?_ ?_; focus (first | exact ordP (by kernel_rfl) | with_reducible exact rfl | trivial | assumption | exact (hb (by assumption)).1 | exact ⟨⟨by omega, by omega⟩, (hb (by assumption)).1.1, (hb (by assumption)).2⟩ | exact ⟨hpre, by omega, by omega⟩ | exact ⟨by omega, by omega⟩ | exact ⟨⟨by omega, by omega⟩, by omega⟩ | (simp only [inR]; omega) | omega | (have hz1 := (hb (by assumption)).1.1; first | omega | exact ⟨by omega, by omega⟩ | exact ⟨⟨by omega, by omega⟩, by omega⟩ | exact ⟨by omega, by omega, by omega⟩) | (have hz1 := (hb (by assumption)).1; intro hh; (repeat' apply And.intro) <;> first | exact hh | omega | exact hz1.2)))
                refine hK42 _ ?_
                clear hK42
                refine W_seq (fun K43 hK43 => ?_)
                refine W_region hT hG [] [8, 9] ?_
                rw [hnt]
                simp only [baseS, eq_self, implies_true, if_true, if_false, reduceIte, Nat.reduceBEq, Nat.reduceEqDiff, Nat.reduceLT, Nat.reduceAdd, reduceCtorEq, tyInt, tdInt, tyRows, tdRows, tyInts, tdInts, c_laws_szIntSS, c_spec_PlugIn, c_laws_toIntSSm, c_impl_PlugIn, c_laws_eqIntS, c_laws_eqIntSS, c_laws_markIntSS, c_laws_markIntS, c_laws_heldIntS, heldF_mark, markL_len, bne_self_eq_false]
                repeat (refine And.intro ?_ ?_; focus (first | exact ordP (by kernel_rfl) | with_reducible exact rfl | trivial | assumption | exact (hb (by assumption)).1 | exact ⟨⟨by omega, by omega⟩, (hb (by assumption)).1.1, (hb (by assumption)).2⟩ | exact ⟨hpre, by omega, by omega⟩ | exact ⟨by omega, by omega⟩ | exact ⟨⟨by omega, by omega⟩, by omega⟩ | (simp only [inR]; omega) | omega | (have hz1 := (hb (by assumption)).1.1; first | omega | exact ⟨by omega, by omega⟩ | exact ⟨⟨by omega, by omega⟩, by omega⟩ | exact ⟨by omega, by omega, by omega⟩) | (have hz1 := (hb (by assumption)).1; intro hh; (repeat' apply And.intro) <;> first | exact hh | omega | exact hz1.2)))
                refine hK43 _ ?_
                clear hK43
                refine W_seq (fun K44 hK44 => ?_)
                refine W_seq (fun K45 hK45 => ?_)
                refine W_region hT hG [] [8, 9, 65] ?_
                rw [hnt]
                simp only [baseS, eq_self, implies_true, if_true, if_false, reduceIte, Nat.reduceBEq, Nat.reduceEqDiff, Nat.reduceLT, Nat.reduceAdd, reduceCtorEq, tyInt, tdInt, tyRows, tdRows, tyInts, tdInts, c_laws_szIntSS, c_spec_PlugIn, c_laws_toIntSSm, c_impl_PlugIn, c_laws_eqIntS, c_laws_eqIntSS, c_laws_markIntSS, c_laws_markIntS, c_laws_heldIntS, heldF_mark, markL_len, bne_self_eq_false]
                repeat (refine And.intro ?_ ?_; focus (first | exact ordP (by kernel_rfl) | with_reducible exact rfl | trivial | assumption | exact (hb (by assumption)).1 | exact ⟨⟨by omega, by omega⟩, (hb (by assumption)).1.1, (hb (by assumption)).2⟩ | exact ⟨hpre, by omega, by omega⟩ | exact ⟨by omega, by omega⟩ | exact ⟨⟨by omega, by omega⟩, by omega⟩ | (simp only [inR]; omega) | omega | (have hz1 := (hb (by assumption)).1.1; first | omega | exact ⟨by omega, by omega⟩ | exact ⟨⟨by omega, by omega⟩, by omega⟩ | exact ⟨by omega, by omega, by omega⟩) | (have hz1 := (hb (by assumption)).1; intro hh; (repeat' apply And.intro) <;> first | exact hh | omega | exact hz1.2)))
                refine hK45 _ ?_
                clear hK45
                refine W_cond (b := _) rfl (fun hc46 => ?_) (fun hc46 => ?_)
                · try simp only [decide_eq_true_eq, decide_eq_false_iff_not, ne_eq, Decidable.not_not, Bool.not_eq_true', Bool.not_eq_false', Bool.or_eq_true, Bool.and_eq_true, Bool.or_eq_false_iff, Bool.and_eq_false_iff] at hc46
                  refine W_seq (fun K47 hK47 => ?_)
                  refine W_region hT hG [] [2] ?_
                  rw [hnt]
                  simp only [baseS, eq_self, implies_true, if_true, if_false, reduceIte, Nat.reduceBEq, Nat.reduceEqDiff, Nat.reduceLT, Nat.reduceAdd, reduceCtorEq, tyInt, tdInt, tyRows, tdRows, tyInts, tdInts, c_laws_szIntSS, c_spec_PlugIn, c_laws_toIntSSm, c_impl_PlugIn, c_laws_eqIntS, c_laws_eqIntSS, c_laws_markIntSS, c_laws_markIntS, c_laws_heldIntS, heldF_mark, markL_len, bne_self_eq_false]
                  repeat (refine And.intro ?_ ?_; focus (first | exact ordP (by kernel_rfl) | with_reducible exact rfl | trivial | assumption | exact (hb (by assumption)).1 | exact ⟨⟨by omega, by omega⟩, (hb (by assumption)).1.1, (hb (by assumption)).2⟩ | exact ⟨hpre, by omega, by omega⟩ | exact ⟨by omega, by omega⟩ | exact ⟨⟨by omega, by omega⟩, by omega⟩ | (simp only [inR]; omega) | omega | (have hz1 := (hb (by assumption)).1.1; first | omega | exact ⟨by omega, by omega⟩ | exact ⟨⟨by omega, by omega⟩, by omega⟩ | exact ⟨by omega, by omega, by omega⟩) | (have hz1 := (hb (by assumption)).1; intro hh; (repeat' apply And.intro) <;> first | exact hh | omega | exact hz1.2)))
                  refine hK47 _ ?_
                  clear hK47
                  refine W_ret ?_
                  simp only [thenQ, blockQ, loopQ, retQ, reduceIte, Nat.reduceEqDiff]
                  refine ret0 ?_ rfl rfl (.inr rfl) rfl
                  simp only [show Try.f3.results.toList = [ResultVar.tmp 2] from rfl, resAV, resL, look, Nat.reduceEqDiff, reduceIte, applyUps, noH, isStr, List.length_cons, List.length_nil, Nat.reduceAdd, and_self]
                  all_goals (
                    first | rfl | (exfalso; omega) | (simp_all; done))
                · try simp only [decide_eq_true_eq, decide_eq_false_iff_not, ne_eq, Decidable.not_not, Bool.not_eq_true', Bool.not_eq_false', Bool.or_eq_true, Bool.and_eq_true, Bool.or_eq_false_iff, Bool.and_eq_false_iff] at hc46
                  refine W_skip ?_
                  simp only [thenQ, blockQ, loopQ, reduceIte, Nat.reduceEqDiff]
                  refine hK44 _ ?_
                  clear hK44
                  refine W_seq (fun K48 hK48 => ?_)
                  refine W_seq (fun K49 hK49 => ?_)
                  refine W_region hT hG [] [68] ?_
                  rw [hnt]
                  simp only [baseS, eq_self, implies_true, if_true, if_false, reduceIte, Nat.reduceBEq, Nat.reduceEqDiff, Nat.reduceLT, Nat.reduceAdd, reduceCtorEq, tyInt, tdInt, tyRows, tdRows, tyInts, tdInts, c_laws_szIntSS, c_spec_PlugIn, c_laws_toIntSSm, c_impl_PlugIn, c_laws_eqIntS, c_laws_eqIntSS, c_laws_markIntSS, c_laws_markIntS, c_laws_heldIntS, heldF_mark, markL_len, bne_self_eq_false]
                  repeat (refine And.intro ?_ ?_; focus (first | exact ordP (by kernel_rfl) | with_reducible exact rfl | trivial | assumption | exact (hb (by assumption)).1 | exact ⟨⟨by omega, by omega⟩, (hb (by assumption)).1.1, (hb (by assumption)).2⟩ | exact ⟨hpre, by omega, by omega⟩ | exact ⟨by omega, by omega⟩ | exact ⟨⟨by omega, by omega⟩, by omega⟩ | (simp only [inR]; omega) | omega | (have hz1 := (hb (by assumption)).1.1; first | omega | exact ⟨by omega, by omega⟩ | exact ⟨⟨by omega, by omega⟩, by omega⟩ | exact ⟨by omega, by omega, by omega⟩) | (have hz1 := (hb (by assumption)).1; intro hh; (repeat' apply And.intro) <;> first | exact hh | omega | exact hz1.2)))
                  refine hK49 _ ?_
                  clear hK49
                  refine W_cond (b := _) rfl (fun hc50 => ?_) (fun hc50 => ?_)
                  · try simp only [decide_eq_true_eq, decide_eq_false_iff_not, ne_eq, Decidable.not_not, Bool.not_eq_true', Bool.not_eq_false', Bool.or_eq_true, Bool.and_eq_true, Bool.or_eq_false_iff, Bool.and_eq_false_iff] at hc50
                    refine W_seq (fun K51 hK51 => ?_)
                    refine W_region hT hG [] [2] ?_
                    rw [hnt]
                    simp only [baseS, eq_self, implies_true, if_true, if_false, reduceIte, Nat.reduceBEq, Nat.reduceEqDiff, Nat.reduceLT, Nat.reduceAdd, reduceCtorEq, tyInt, tdInt, tyRows, tdRows, tyInts, tdInts, c_laws_szIntSS, c_spec_PlugIn, c_laws_toIntSSm, c_impl_PlugIn, c_laws_eqIntS, c_laws_eqIntSS, c_laws_markIntSS, c_laws_markIntS, c_laws_heldIntS, heldF_mark, markL_len, bne_self_eq_false]
                    repeat (refine And.intro ?_ ?_; focus (first | exact ordP (by kernel_rfl) | with_reducible exact rfl | trivial | assumption | exact (hb (by assumption)).1 | exact ⟨⟨by omega, by omega⟩, (hb (by assumption)).1.1, (hb (by assumption)).2⟩ | exact ⟨hpre, by omega, by omega⟩ | exact ⟨by omega, by omega⟩ | exact ⟨⟨by omega, by omega⟩, by omega⟩ | (simp only [inR]; omega) | omega | (have hz1 := (hb (by assumption)).1.1; first | omega | exact ⟨by omega, by omega⟩ | exact ⟨⟨by omega, by omega⟩, by omega⟩ | exact ⟨by omega, by omega, by omega⟩) | (have hz1 := (hb (by assumption)).1; intro hh; (repeat' apply And.intro) <;> first | exact hh | omega | exact hz1.2)))
                    refine hK51 _ ?_
                    clear hK51
                    refine W_ret ?_
                    simp only [thenQ, blockQ, loopQ, retQ, reduceIte, Nat.reduceEqDiff]
                    refine ret0 ?_ rfl rfl (.inr rfl) rfl
                    simp only [show Try.f3.results.toList = [ResultVar.tmp 2] from rfl, resAV, resL, look, Nat.reduceEqDiff, reduceIte, applyUps, noH, isStr, List.length_cons, List.length_nil, Nat.reduceAdd, and_self]
                    all_goals (
                      first | rfl | (exfalso; omega) | (simp_all; done))
                  · try simp only [decide_eq_true_eq, decide_eq_false_iff_not, ne_eq, Decidable.not_not, Bool.not_eq_true', Bool.not_eq_false', Bool.or_eq_true, Bool.and_eq_true, Bool.or_eq_false_iff, Bool.and_eq_false_iff] at hc50
                    refine W_skip ?_
                    simp only [thenQ, blockQ, loopQ, reduceIte, Nat.reduceEqDiff]
                    refine hK48 _ ?_
                    clear hK48
                    refine W_seq (fun K52 hK52 => ?_)
                    refine W_region hT hG [] [2] ?_
                    rw [hnt]
                    simp only [baseS, eq_self, implies_true, if_true, if_false, reduceIte, Nat.reduceBEq, Nat.reduceEqDiff, Nat.reduceLT, Nat.reduceAdd, reduceCtorEq, tyInt, tdInt, tyRows, tdRows, tyInts, tdInts, c_laws_szIntSS, c_spec_PlugIn, c_laws_toIntSSm, c_impl_PlugIn, c_laws_eqIntS, c_laws_eqIntSS, c_laws_markIntSS, c_laws_markIntS, c_laws_heldIntS, heldF_mark, markL_len, bne_self_eq_false]
                    repeat (refine And.intro ?_ ?_; focus (first | exact ordP (by kernel_rfl) | with_reducible exact rfl | trivial | assumption | exact (hb (by assumption)).1 | exact ⟨⟨by omega, by omega⟩, (hb (by assumption)).1.1, (hb (by assumption)).2⟩ | exact ⟨hpre, by omega, by omega⟩ | exact ⟨by omega, by omega⟩ | exact ⟨⟨by omega, by omega⟩, by omega⟩ | (simp only [inR]; omega) | omega | (have hz1 := (hb (by assumption)).1.1; first | omega | exact ⟨by omega, by omega⟩ | exact ⟨⟨by omega, by omega⟩, by omega⟩ | exact ⟨by omega, by omega, by omega⟩) | (have hz1 := (hb (by assumption)).1; intro hh; (repeat' apply And.intro) <;> first | exact hh | omega | exact hz1.2)))
                    refine hK52 _ ?_
                    clear hK52
                    refine W_ret ?_
                    simp only [thenQ, blockQ, loopQ, retQ, reduceIte, Nat.reduceEqDiff]
                    refine ret0 ?_ rfl rfl (.inr rfl) rfl
                    simp only [show Try.f3.results.toList = [ResultVar.tmp 2] from rfl, resAV, resL, look, Nat.reduceEqDiff, reduceIte, applyUps, noH, isStr, List.length_cons, List.length_nil, Nat.reduceAdd, and_self]
                    all_goals (
                      first | rfl | (exfalso; omega) | (simp_all; done))

end Go.Proofs.Ytpiklifnbbhleaa
