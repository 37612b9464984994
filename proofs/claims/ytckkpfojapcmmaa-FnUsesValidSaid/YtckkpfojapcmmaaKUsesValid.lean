/- Walk over the law laws.FnUsesValid. No condition. -/
import Derived.Test.YtckkpfojapcmmaaDrawU
import Derived.Test.YtckkpfojapcmmaaUses
import Derived.Test.YtckkpfojapcmmaaAlive
import Derived.Test.YtckkpfojapcmmaaTopU
namespace Go.Proofs.Ytckkpfojapcmmaa
open Go
set_option linter.unusedVariables false
set_option linter.unusedSimpArgs false

theorem uses_less {u : List (List Int)} (h : usesB u = true) (h1 : ¬ (u.length : Int) = 0) : usesB ([] :: u.drop 1) = true := by
  cases u with
  | nil => simp at h1
  | cons x xs =>
    simp only [usesB, List.all_cons, List.length_cons, Bool.and_eq_true, List.drop_succ_cons, List.drop_zero] at h ⊢
    exact ⟨⟨rfl, h.1.2⟩, h.2⟩
theorem uses_rows {u : List (List Int)} {zs : List Int} (h : u.length ≤ 7) (h1 : ∀ xs ∈ u, xs.length ≤ 6) (hz : zs.length ≤ 6) : (u.drop 1).length ≤ 9223372036854775806 ∧ ∀ xs ∈ zs :: u.drop 1, xs.length ≤ 9223372036854775807 := by
  refine ⟨by rw [List.length_drop]; omega, fun xs hx => ?_⟩
  rcases List.mem_cons.1 hx with h | h
  · subst h; omega
  · have := h1 xs (List.mem_of_mem_drop h); omega
theorem uses_wrong (u : List (List Int)) : usesB ([6] :: u.drop 1) = false := by
  simp only [usesB, List.all_cons, show rowB [6] = false from by decide, Bool.false_and]

def c_laws_FnUsesValid : Ctr where
  modes := [.v (.r .u8)]
  al := false
  run := fun xs os => match xs, os with
    | [.rs .u8 b], [] => some ⟨b.length ≤ 9223372036854775807 ∧ ∀ x ∈ b, 0 ≤ x ∧ x ≤ 255, .bool true, [], []⟩
    | _, _ => none
theorem m_laws_FnUsesValid : Meets Try.prog 7 c_laws_FnUsesValid := by
  refine meets_of (T := tyT) tyOK Try.func7 (by rfl) rfl (by decide) ?_
  intro args owns R hrun hpre
  simp only [c_laws_FnUsesValid] at hrun
  split at hrun
  case h_2 => cases hrun
  rename_i b
  cases hrun
  try dsimp only at hpre
  refine ⟨_, rfl, fun E hP hnt hnp => ?_⟩
  replace hnt : E.nt = 46 := hnt
  replace hnp : E.np = 1 := hnp
  have hT : ∀ t d, tyT t = some d → TyOK E.P t d := hP ▸ tyOK
  have hG : ∀ f C, Γof [(21, c_spec_UsesValid), (23, c_impl_UsesValid), (26, c_laws_alive), (27, c_spec_DrawUsesValid)] f = some C → Meets E.P f C := hΓof (by rw [hP]; exact ⟨m_spec_UsesValid, m_impl_UsesValid, m_laws_alive, m_spec_DrawUsesValid, trivial⟩)
  try simp only [show Try.f7.ntmps = 46 from rfl]
  refine W_seq (fun K1 hK1 => ?_)
  refine W_region hT hG [300029, 300034] [0] ?_
  rw [hnt]
  simp only [baseS, eq_self, implies_true, if_true, if_false, reduceIte, Nat.reduceBEq, Nat.reduceEqDiff, Nat.reduceLT, Nat.reduceAdd, reduceCtorEq, relC, callOK0, callOK1, fzE, c_spec_DrawUsesValidR, tyInt, tdInt, tyBool, tdBool, tyRows, tdRows, tyBytes, tdBytes, tyInts, tdInts, c_spec_UsesValid, c_impl_UsesValid, c_laws_alive, c_spec_DrawUsesValid, decide_false, room, Nat.reduceLeDiff, Nat.zero_le, storeAV, rowQ, ownInts, FT.of, FT.setf, elems, appAV_I, appI, srcI, ownI, anyI, sameR, appAV_P, appP, srcP, ownP, anyP, rowsAV, appAV, srcRows, List.length_append, setAll, Option.isSome_some, List.drop_zero, Int.reduceToNat]
  repeat (refine And.intro ?_ ?_; focus (first | exact hpre.2 | (simp only [List.length_drop]; omega) | exact hb1 | exact hb4 | exact hb5 | (intro hh; exact ⟨hh, hb5⟩) | (intro hh; exact hb5) | first | exact ordP (by kernel_rfl) | with_reducible exact rfl | assumption | trivial | (simp only [inR]; omega) | omega | exact ⟨by omega, by omega⟩ | exact ⟨by omega, by omega, by omega⟩ | ((try simp only [decide_eq_true_eq, Bool.and_eq_true, ne_eq, decide_not, Bool.not_eq_true', Bool.not_eq_false', Bool.or_eq_false_iff, Bool.not_not, decide_eq_false_iff_not]); (try intro hh); (repeat' apply And.intro) <;> (first | omega | (simp only [inR]; omega) | assumption | exact hh.1 | exact hh.2 | exact hh.2.1 | exact hh.2.2 | exact hh.1.1 | exact hh.1.2 | (intro hq; exact ⟨hh, hq⟩) | (intro hq; exact ⟨hh.1, hq⟩) | (simp_all; done)))))
  refine hK1 _ ?_
  clear hK1
  refine W_seq (fun K2 hK2 => ?_)
  refine W_seq (fun K3 hK3 => ?_)
  refine W_region hT hG [300029, 300034] [0, 9] ?_
  rw [hnt]
  simp only [baseS, eq_self, implies_true, if_true, if_false, reduceIte, Nat.reduceBEq, Nat.reduceEqDiff, Nat.reduceLT, Nat.reduceAdd, reduceCtorEq, relC, callOK0, callOK1, fzE, c_spec_DrawUsesValidR, tyInt, tdInt, tyBool, tdBool, tyRows, tdRows, tyBytes, tdBytes, tyInts, tdInts, c_spec_UsesValid, c_impl_UsesValid, c_laws_alive, c_spec_DrawUsesValid, decide_false, room, Nat.reduceLeDiff, Nat.zero_le, storeAV, rowQ, ownInts, FT.of, FT.setf, elems, appAV_I, appI, srcI, ownI, anyI, sameR, appAV_P, appP, srcP, ownP, anyP, rowsAV, appAV, srcRows, List.length_append, setAll, Option.isSome_some, List.drop_zero, Int.reduceToNat]
  repeat (refine And.intro ?_ ?_; focus (first | exact hpre.2 | (simp only [List.length_drop]; omega) | exact hb1 | exact hb4 | exact hb5 | (intro hh; exact ⟨hh, hb5⟩) | (intro hh; exact hb5) | first | exact ordP (by kernel_rfl) | with_reducible exact rfl | assumption | trivial | (simp only [inR]; omega) | omega | exact ⟨by omega, by omega⟩ | exact ⟨by omega, by omega, by omega⟩ | ((try simp only [decide_eq_true_eq, Bool.and_eq_true, ne_eq, decide_not, Bool.not_eq_true', Bool.not_eq_false', Bool.or_eq_false_iff, Bool.not_not, decide_eq_false_iff_not]); (try intro hh); (repeat' apply And.intro) <;> (first | omega | (simp only [inR]; omega) | assumption | exact hh.1 | exact hh.2 | exact hh.2.1 | exact hh.2.2 | exact hh.1.1 | exact hh.1.2 | (intro hq; exact ⟨hh, hq⟩) | (intro hq; exact ⟨hh.1, hq⟩) | (simp_all; done)))))
  refine hK3 _ ?_
  clear hK3
  refine W_cond (b := _) rfl (fun hc4 => ?_) (fun hc4 => ?_)
  · try simp only [decide_eq_true_eq, decide_eq_false_iff_not, ne_eq, Decidable.not_not, Bool.not_eq_true', Bool.not_eq_false', Bool.or_eq_true, Bool.and_eq_true, Bool.or_eq_false_iff, Bool.and_eq_false_iff] at hc4
    refine W_seq (fun K5 hK5 => ?_)
    refine W_region hT hG [300029, 300034] [2] ?_
    rw [hnt]
    simp only [baseS, eq_self, implies_true, if_true, if_false, reduceIte, Nat.reduceBEq, Nat.reduceEqDiff, Nat.reduceLT, Nat.reduceAdd, reduceCtorEq, relC, callOK0, callOK1, fzE, c_spec_DrawUsesValidR, tyInt, tdInt, tyBool, tdBool, tyRows, tdRows, tyBytes, tdBytes, tyInts, tdInts, c_spec_UsesValid, c_impl_UsesValid, c_laws_alive, c_spec_DrawUsesValid, decide_false, room, Nat.reduceLeDiff, Nat.zero_le, storeAV, rowQ, ownInts, FT.of, FT.setf, elems, appAV_I, appI, srcI, ownI, anyI, sameR, appAV_P, appP, srcP, ownP, anyP, rowsAV, appAV, srcRows, List.length_append, setAll, Option.isSome_some, List.drop_zero, Int.reduceToNat]
    repeat (refine And.intro ?_ ?_; focus (first | exact hpre.2 | (simp only [List.length_drop]; omega) | exact hb1 | exact hb4 | exact hb5 | (intro hh; exact ⟨hh, hb5⟩) | (intro hh; exact hb5) | first | exact ordP (by kernel_rfl) | with_reducible exact rfl | assumption | trivial | (simp only [inR]; omega) | omega | exact ⟨by omega, by omega⟩ | exact ⟨by omega, by omega, by omega⟩ | ((try simp only [decide_eq_true_eq, Bool.and_eq_true, ne_eq, decide_not, Bool.not_eq_true', Bool.not_eq_false', Bool.or_eq_false_iff, Bool.not_not, decide_eq_false_iff_not]); (try intro hh); (repeat' apply And.intro) <;> (first | omega | (simp only [inR]; omega) | assumption | exact hh.1 | exact hh.2 | exact hh.2.1 | exact hh.2.2 | exact hh.1.1 | exact hh.1.2 | (intro hq; exact ⟨hh, hq⟩) | (intro hq; exact ⟨hh.1, hq⟩) | (simp_all; done)))))
    refine hK5 _ ?_
    clear hK5
    refine W_ret ?_
    simp only [thenQ, blockQ, loopQ, retQ, reduceIte, Nat.reduceEqDiff]
    refine ret0 ?_ rfl rfl (.inr rfl) rfl
    simp only [show Try.f7.results.toList = [ResultVar.tmp 2] from rfl, resAV, resL, look, Nat.reduceEqDiff, reduceIte, tyHull, tdHull, applyUps, noH, isStr, List.length_cons, List.length_nil, Nat.reduceAdd, and_self]
    all_goals (
      first | rfl | (refine congrArg (fun x => some (AV.bool x)) ?_; simp_all; done) | skip)
  · try simp only [decide_eq_true_eq, decide_eq_false_iff_not, ne_eq, Decidable.not_not, Bool.not_eq_true', Bool.not_eq_false', Bool.or_eq_true, Bool.and_eq_true, Bool.or_eq_false_iff, Bool.and_eq_false_iff] at hc4
    refine W_skip ?_
    simp only [thenQ, blockQ, loopQ, reduceIte, Nat.reduceEqDiff]
    refine hK2 _ ?_
    clear hK2
    refine W_seq (fun K6 hK6 => ?_)
    refine W_region hT hG [300029, 300034] [3] ?_
    rw [hnt]
    simp only [baseS, eq_self, implies_true, if_true, if_false, reduceIte, Nat.reduceBEq, Nat.reduceEqDiff, Nat.reduceLT, Nat.reduceAdd, reduceCtorEq, relC, callOK0, callOK1, fzE, c_spec_DrawUsesValidR, tyInt, tdInt, tyBool, tdBool, tyRows, tdRows, tyBytes, tdBytes, tyInts, tdInts, c_spec_UsesValid, c_impl_UsesValid, c_laws_alive, c_spec_DrawUsesValid, decide_false, room, Nat.reduceLeDiff, Nat.zero_le, storeAV, rowQ, ownInts, FT.of, FT.setf, elems, appAV_I, appI, srcI, ownI, anyI, sameR, appAV_P, appP, srcP, ownP, anyP, rowsAV, appAV, srcRows, List.length_append, setAll, Option.isSome_some, List.drop_zero, Int.reduceToNat]
    repeat (refine And.intro ?_ ?_; focus (first | exact hpre.2 | (simp only [List.length_drop]; omega) | exact hb1 | exact hb4 | exact hb5 | (intro hh; exact ⟨hh, hb5⟩) | (intro hh; exact hb5) | first | exact ordP (by kernel_rfl) | with_reducible exact rfl | assumption | trivial | (simp only [inR]; omega) | omega | exact ⟨by omega, by omega⟩ | exact ⟨by omega, by omega, by omega⟩ | ((try simp only [decide_eq_true_eq, Bool.and_eq_true, ne_eq, decide_not, Bool.not_eq_true', Bool.not_eq_false', Bool.or_eq_false_iff, Bool.not_not, decide_eq_false_iff_not]); (try intro hh); (repeat' apply And.intro) <;> (first | omega | (simp only [inR]; omega) | assumption | exact hh.1 | exact hh.2 | exact hh.2.1 | exact hh.2.2 | exact hh.1.1 | exact hh.1.2 | (intro hq; exact ⟨hh, hq⟩) | (intro hq; exact ⟨hh.1, hq⟩) | (simp_all; done)))))
    rintro _ ⟨u, rfl, hg, hq⟩
    have hb1 : u.length ≤ 9223372036854775807 ∧ ∀ xs ∈ u, xs.length ≤ 9223372036854775807 := ⟨by omega, fun xs h => by have := hq xs h; omega⟩
    have hb2 := fun (zs : List Int) (hz : zs.length ≤ 6) => uses_rows (zs := zs) hg hq hz
    have hb4 := hb2 [] (by simp)
    have hb5 := hb2 [6] (by simp)
    have hu1 := @uses_less u
    have hu2 := uses_wrong u
    simp only [baseS, eq_self, implies_true, if_true, if_false, reduceIte, Nat.reduceBEq, Nat.reduceEqDiff, Nat.reduceLT, Nat.reduceAdd, reduceCtorEq, relC, callOK0, callOK1, fzE, c_spec_DrawUsesValidR, tyInt, tdInt, tyBool, tdBool, tyRows, tdRows, tyBytes, tdBytes, tyInts, tdInts, c_spec_UsesValid, c_impl_UsesValid, c_laws_alive, c_spec_DrawUsesValid, decide_false, room, Nat.reduceLeDiff, Nat.zero_le, storeAV, rowQ, ownInts, FT.of, FT.setf, elems, appAV_I, appI, srcI, ownI, anyI, sameR, appAV_P, appP, srcP, ownP, anyP, rowsAV, appAV, srcRows, List.length_append, setAll, Option.isSome_some, List.drop_zero, Int.reduceToNat]
    repeat (refine And.intro ?_ ?_; focus (first | exact hpre.2 | (simp only [List.length_drop]; omega) | exact hb1 | exact hb4 | exact hb5 | (intro hh; exact ⟨hh, hb5⟩) | (intro hh; exact hb5) | first | exact ordP (by kernel_rfl) | with_reducible exact rfl | assumption | trivial | (simp only [inR]; omega) | omega | exact ⟨by omega, by omega⟩ | exact ⟨by omega, by omega, by omega⟩ | ((try simp only [decide_eq_true_eq, Bool.and_eq_true, ne_eq, decide_not, Bool.not_eq_true', Bool.not_eq_false', Bool.or_eq_false_iff, Bool.not_not, decide_eq_false_iff_not]); (try intro hh); (repeat' apply And.intro) <;> (first | omega | (simp only [inR]; omega) | assumption | exact hh.1 | exact hh.2 | exact hh.2.1 | exact hh.2.2 | exact hh.1.1 | exact hh.1.2 | (intro hq; exact ⟨hh, hq⟩) | (intro hq; exact ⟨hh.1, hq⟩) | (simp_all; done)))))
    refine hK6 _ ?_
    clear hK6
    refine W_seq (fun K7 hK7 => ?_)
    refine W_region hT hG [300029, 300034] [3, 4] ?_
    rw [hnt]
    simp only [baseS, eq_self, implies_true, if_true, if_false, reduceIte, Nat.reduceBEq, Nat.reduceEqDiff, Nat.reduceLT, Nat.reduceAdd, reduceCtorEq, relC, callOK0, callOK1, fzE, c_spec_DrawUsesValidR, tyInt, tdInt, tyBool, tdBool, tyRows, tdRows, tyBytes, tdBytes, tyInts, tdInts, c_spec_UsesValid, c_impl_UsesValid, c_laws_alive, c_spec_DrawUsesValid, decide_false, room, Nat.reduceLeDiff, Nat.zero_le, storeAV, rowQ, ownInts, FT.of, FT.setf, elems, appAV_I, appI, srcI, ownI, anyI, sameR, appAV_P, appP, srcP, ownP, anyP, rowsAV, appAV, srcRows, List.length_append, setAll, Option.isSome_some, List.drop_zero, Int.reduceToNat]
    repeat (refine And.intro ?_ ?_; focus (first | exact hpre.2 | (simp only [List.length_drop]; omega) | exact hb1 | exact hb4 | exact hb5 | (intro hh; exact ⟨hh, hb5⟩) | (intro hh; exact hb5) | first | exact ordP (by kernel_rfl) | with_reducible exact rfl | assumption | trivial | (simp only [inR]; omega) | omega | exact ⟨by omega, by omega⟩ | exact ⟨by omega, by omega, by omega⟩ | ((try simp only [decide_eq_true_eq, Bool.and_eq_true, ne_eq, decide_not, Bool.not_eq_true', Bool.not_eq_false', Bool.or_eq_false_iff, Bool.not_not, decide_eq_false_iff_not]); (try intro hh); (repeat' apply And.intro) <;> (first | omega | (simp only [inR]; omega) | assumption | exact hh.1 | exact hh.2 | exact hh.2.1 | exact hh.2.2 | exact hh.1.1 | exact hh.1.2 | (intro hq; exact ⟨hh, hq⟩) | (intro hq; exact ⟨hh.1, hq⟩) | (simp_all; done)))))
    refine hK7 _ ?_
    clear hK7
    refine W_seq (fun K8 hK8 => ?_)
    refine W_seq (fun K9 hK9 => ?_)
    refine W_region hT hG [300029, 300034] [3, 4, 17] ?_
    rw [hnt]
    simp only [baseS, eq_self, implies_true, if_true, if_false, reduceIte, Nat.reduceBEq, Nat.reduceEqDiff, Nat.reduceLT, Nat.reduceAdd, reduceCtorEq, relC, callOK0, callOK1, fzE, c_spec_DrawUsesValidR, tyInt, tdInt, tyBool, tdBool, tyRows, tdRows, tyBytes, tdBytes, tyInts, tdInts, c_spec_UsesValid, c_impl_UsesValid, c_laws_alive, c_spec_DrawUsesValid, decide_false, room, Nat.reduceLeDiff, Nat.zero_le, storeAV, rowQ, ownInts, FT.of, FT.setf, elems, appAV_I, appI, srcI, ownI, anyI, sameR, appAV_P, appP, srcP, ownP, anyP, rowsAV, appAV, srcRows, List.length_append, setAll, Option.isSome_some, List.drop_zero, Int.reduceToNat]
    repeat (refine And.intro ?_ ?_; focus (first | exact hpre.2 | (simp only [List.length_drop]; omega) | exact hb1 | exact hb4 | exact hb5 | (intro hh; exact ⟨hh, hb5⟩) | (intro hh; exact hb5) | first | exact ordP (by kernel_rfl) | with_reducible exact rfl | assumption | trivial | (simp only [inR]; omega) | omega | exact ⟨by omega, by omega⟩ | exact ⟨by omega, by omega, by omega⟩ | ((try simp only [decide_eq_true_eq, Bool.and_eq_true, ne_eq, decide_not, Bool.not_eq_true', Bool.not_eq_false', Bool.or_eq_false_iff, Bool.not_not, decide_eq_false_iff_not]); (try intro hh); (repeat' apply And.intro) <;> (first | omega | (simp only [inR]; omega) | assumption | exact hh.1 | exact hh.2 | exact hh.2.1 | exact hh.2.2 | exact hh.1.1 | exact hh.1.2 | (intro hq; exact ⟨hh, hq⟩) | (intro hq; exact ⟨hh.1, hq⟩) | (simp_all; done)))))
    refine hK9 _ ?_
    clear hK9
    refine W_cond (b := _) rfl (fun hc10 => ?_) (fun hc10 => ?_)
    · try simp only [decide_eq_true_eq, decide_eq_false_iff_not, ne_eq, Decidable.not_not, Bool.not_eq_true', Bool.not_eq_false', Bool.or_eq_true, Bool.and_eq_true, Bool.or_eq_false_iff, Bool.and_eq_false_iff] at hc10
      first | exact absurd rfl hc10 | (simp at hc10; done) | exact absurd trivial hc10
    · try simp only [decide_eq_true_eq, decide_eq_false_iff_not, ne_eq, Decidable.not_not, Bool.not_eq_true', Bool.not_eq_false', Bool.or_eq_true, Bool.and_eq_true, Bool.or_eq_false_iff, Bool.and_eq_false_iff] at hc10
      refine W_skip ?_
      simp only [thenQ, blockQ, loopQ, reduceIte, Nat.reduceEqDiff]
      refine hK8 _ ?_
      clear hK8
      refine W_seq (fun K11 hK11 => ?_)
      refine W_seq (fun K12 hK12 => ?_)
      refine W_region hT hG [300029, 300034] [3, 24] ?_
      rw [hnt]
      simp only [baseS, eq_self, implies_true, if_true, if_false, reduceIte, Nat.reduceBEq, Nat.reduceEqDiff, Nat.reduceLT, Nat.reduceAdd, reduceCtorEq, relC, callOK0, callOK1, fzE, c_spec_DrawUsesValidR, tyInt, tdInt, tyBool, tdBool, tyRows, tdRows, tyBytes, tdBytes, tyInts, tdInts, c_spec_UsesValid, c_impl_UsesValid, c_laws_alive, c_spec_DrawUsesValid, decide_false, room, Nat.reduceLeDiff, Nat.zero_le, storeAV, rowQ, ownInts, FT.of, FT.setf, elems, appAV_I, appI, srcI, ownI, anyI, sameR, appAV_P, appP, srcP, ownP, anyP, rowsAV, appAV, srcRows, List.length_append, setAll, Option.isSome_some, List.drop_zero, Int.reduceToNat]
      repeat (refine And.intro ?_ ?_; focus (first | exact hpre.2 | (simp only [List.length_drop]; omega) | exact hb1 | exact hb4 | exact hb5 | (intro hh; exact ⟨hh, hb5⟩) | (intro hh; exact hb5) | first | exact ordP (by kernel_rfl) | with_reducible exact rfl | assumption | trivial | (simp only [inR]; omega) | omega | exact ⟨by omega, by omega⟩ | exact ⟨by omega, by omega, by omega⟩ | ((try simp only [decide_eq_true_eq, Bool.and_eq_true, ne_eq, decide_not, Bool.not_eq_true', Bool.not_eq_false', Bool.or_eq_false_iff, Bool.not_not, decide_eq_false_iff_not]); (try intro hh); (repeat' apply And.intro) <;> (first | omega | (simp only [inR]; omega) | assumption | exact hh.1 | exact hh.2 | exact hh.2.1 | exact hh.2.2 | exact hh.1.1 | exact hh.1.2 | (intro hq; exact ⟨hh, hq⟩) | (intro hq; exact ⟨hh.1, hq⟩) | (simp_all; done)))))
      refine hK12 _ ?_
      clear hK12
      refine W_cond (b := _) rfl (fun hc13 => ?_) (fun hc13 => ?_)
      · try simp only [decide_eq_true_eq, decide_eq_false_iff_not, ne_eq, Decidable.not_not, Bool.not_eq_true', Bool.not_eq_false', Bool.or_eq_true, Bool.and_eq_true, Bool.or_eq_false_iff, Bool.and_eq_false_iff] at hc13
        refine W_seq (fun K14 hK14 => ?_)
        refine W_region hT hG [300029, 300034] [2] ?_
        rw [hnt]
        simp only [baseS, eq_self, implies_true, if_true, if_false, reduceIte, Nat.reduceBEq, Nat.reduceEqDiff, Nat.reduceLT, Nat.reduceAdd, reduceCtorEq, relC, callOK0, callOK1, fzE, c_spec_DrawUsesValidR, tyInt, tdInt, tyBool, tdBool, tyRows, tdRows, tyBytes, tdBytes, tyInts, tdInts, c_spec_UsesValid, c_impl_UsesValid, c_laws_alive, c_spec_DrawUsesValid, decide_false, room, Nat.reduceLeDiff, Nat.zero_le, storeAV, rowQ, ownInts, FT.of, FT.setf, elems, appAV_I, appI, srcI, ownI, anyI, sameR, appAV_P, appP, srcP, ownP, anyP, rowsAV, appAV, srcRows, List.length_append, setAll, Option.isSome_some, List.drop_zero, Int.reduceToNat]
        repeat (refine And.intro ?_ ?_; focus (first | exact hpre.2 | (simp only [List.length_drop]; omega) | exact hb1 | exact hb4 | exact hb5 | (intro hh; exact ⟨hh, hb5⟩) | (intro hh; exact hb5) | first | exact ordP (by kernel_rfl) | with_reducible exact rfl | assumption | trivial | (simp only [inR]; omega) | omega | exact ⟨by omega, by omega⟩ | exact ⟨by omega, by omega, by omega⟩ | ((try simp only [decide_eq_true_eq, Bool.and_eq_true, ne_eq, decide_not, Bool.not_eq_true', Bool.not_eq_false', Bool.or_eq_false_iff, Bool.not_not, decide_eq_false_iff_not]); (try intro hh); (repeat' apply And.intro) <;> (first | omega | (simp only [inR]; omega) | assumption | exact hh.1 | exact hh.2 | exact hh.2.1 | exact hh.2.2 | exact hh.1.1 | exact hh.1.2 | (intro hq; exact ⟨hh, hq⟩) | (intro hq; exact ⟨hh.1, hq⟩) | (simp_all; done)))))
        refine hK14 _ ?_
        clear hK14
        refine W_ret ?_
        simp only [thenQ, blockQ, loopQ, retQ, reduceIte, Nat.reduceEqDiff]
        refine ret0 ?_ rfl rfl (.inr rfl) rfl
        simp only [show Try.f7.results.toList = [ResultVar.tmp 2] from rfl, resAV, resL, look, Nat.reduceEqDiff, reduceIte, tyHull, tdHull, applyUps, noH, isStr, List.length_cons, List.length_nil, Nat.reduceAdd, and_self]
        all_goals (
          first | rfl | (refine congrArg (fun x => some (AV.bool x)) ?_; simp_all; done) | skip)
      · try simp only [decide_eq_true_eq, decide_eq_false_iff_not, ne_eq, Decidable.not_not, Bool.not_eq_true', Bool.not_eq_false', Bool.or_eq_true, Bool.and_eq_true, Bool.or_eq_false_iff, Bool.and_eq_false_iff] at hc13
        refine W_skip ?_
        simp only [thenQ, blockQ, loopQ, reduceIte, Nat.reduceEqDiff]
        refine hK11 _ ?_
        clear hK11
        refine W_seq (fun K15 hK15 => ?_)
        refine W_region hT hG [300029, 300034] [3, 5] ?_
        rw [hnt]
        simp only [baseS, eq_self, implies_true, if_true, if_false, reduceIte, Nat.reduceBEq, Nat.reduceEqDiff, Nat.reduceLT, Nat.reduceAdd, reduceCtorEq, relC, callOK0, callOK1, fzE, c_spec_DrawUsesValidR, tyInt, tdInt, tyBool, tdBool, tyRows, tdRows, tyBytes, tdBytes, tyInts, tdInts, c_spec_UsesValid, c_impl_UsesValid, c_laws_alive, c_spec_DrawUsesValid, decide_false, room, Nat.reduceLeDiff, Nat.zero_le, storeAV, rowQ, ownInts, FT.of, FT.setf, elems, appAV_I, appI, srcI, ownI, anyI, sameR, appAV_P, appP, srcP, ownP, anyP, rowsAV, appAV, srcRows, List.length_append, setAll, Option.isSome_some, List.drop_zero, Int.reduceToNat]
        repeat (refine And.intro ?_ ?_; focus (first | exact hpre.2 | (simp only [List.length_drop]; omega) | exact hb1 | exact hb4 | exact hb5 | (intro hh; exact ⟨hh, hb5⟩) | (intro hh; exact hb5) | first | exact ordP (by kernel_rfl) | with_reducible exact rfl | assumption | trivial | (simp only [inR]; omega) | omega | exact ⟨by omega, by omega⟩ | exact ⟨by omega, by omega, by omega⟩ | ((try simp only [decide_eq_true_eq, Bool.and_eq_true, ne_eq, decide_not, Bool.not_eq_true', Bool.not_eq_false', Bool.or_eq_false_iff, Bool.not_not, decide_eq_false_iff_not]); (try intro hh); (repeat' apply And.intro) <;> (first | omega | (simp only [inR]; omega) | assumption | exact hh.1 | exact hh.2 | exact hh.2.1 | exact hh.2.2 | exact hh.1.1 | exact hh.1.2 | (intro hq; exact ⟨hh, hq⟩) | (intro hq; exact ⟨hh.1, hq⟩) | (simp_all; done)))))
        refine hK15 _ ?_
        clear hK15
        refine W_seq (fun K16 hK16 => ?_)
        refine W_region hT hG [300029, 300034] [5, 6] ?_
        rw [hnt]
        simp only [baseS, eq_self, implies_true, if_true, if_false, reduceIte, Nat.reduceBEq, Nat.reduceEqDiff, Nat.reduceLT, Nat.reduceAdd, reduceCtorEq, relC, callOK0, callOK1, fzE, c_spec_DrawUsesValidR, tyInt, tdInt, tyBool, tdBool, tyRows, tdRows, tyBytes, tdBytes, tyInts, tdInts, c_spec_UsesValid, c_impl_UsesValid, c_laws_alive, c_spec_DrawUsesValid, decide_false, room, Nat.reduceLeDiff, Nat.zero_le, storeAV, rowQ, ownInts, FT.of, FT.setf, elems, appAV_I, appI, srcI, ownI, anyI, sameR, appAV_P, appP, srcP, ownP, anyP, rowsAV, appAV, srcRows, List.length_append, setAll, Option.isSome_some, List.drop_zero, Int.reduceToNat]
        repeat (refine And.intro ?_ ?_; focus (first | exact hpre.2 | (simp only [List.length_drop]; omega) | exact hb1 | exact hb4 | exact hb5 | (intro hh; exact ⟨hh, hb5⟩) | (intro hh; exact hb5) | first | exact ordP (by kernel_rfl) | with_reducible exact rfl | assumption | trivial | (simp only [inR]; omega) | omega | exact ⟨by omega, by omega⟩ | exact ⟨by omega, by omega, by omega⟩ | ((try simp only [decide_eq_true_eq, Bool.and_eq_true, ne_eq, decide_not, Bool.not_eq_true', Bool.not_eq_false', Bool.or_eq_false_iff, Bool.not_not, decide_eq_false_iff_not]); (try intro hh); (repeat' apply And.intro) <;> (first | omega | (simp only [inR]; omega) | assumption | exact hh.1 | exact hh.2 | exact hh.2.1 | exact hh.2.2 | exact hh.1.1 | exact hh.1.2 | (intro hq; exact ⟨hh, hq⟩) | (intro hq; exact ⟨hh.1, hq⟩) | (simp_all; done)))))
        refine hK16 _ ?_
        clear hK16
        refine W_seq (fun K17 hK17 => ?_)
        refine W_region hT hG [300029, 300034] [2] ?_
        rw [hnt]
        simp only [baseS, eq_self, implies_true, if_true, if_false, reduceIte, Nat.reduceBEq, Nat.reduceEqDiff, Nat.reduceLT, Nat.reduceAdd, reduceCtorEq, relC, callOK0, callOK1, fzE, c_spec_DrawUsesValidR, tyInt, tdInt, tyBool, tdBool, tyRows, tdRows, tyBytes, tdBytes, tyInts, tdInts, c_spec_UsesValid, c_impl_UsesValid, c_laws_alive, c_spec_DrawUsesValid, decide_false, room, Nat.reduceLeDiff, Nat.zero_le, storeAV, rowQ, ownInts, FT.of, FT.setf, elems, appAV_I, appI, srcI, ownI, anyI, sameR, appAV_P, appP, srcP, ownP, anyP, rowsAV, appAV, srcRows, List.length_append, setAll, Option.isSome_some, List.drop_zero, Int.reduceToNat]
        repeat (refine And.intro ?_ ?_; focus (first | exact hpre.2 | (simp only [List.length_drop]; omega) | exact hb1 | exact hb4 | exact hb5 | (intro hh; exact ⟨hh, hb5⟩) | (intro hh; exact hb5) | first | exact ordP (by kernel_rfl) | with_reducible exact rfl | assumption | trivial | (simp only [inR]; omega) | omega | exact ⟨by omega, by omega⟩ | exact ⟨by omega, by omega, by omega⟩ | ((try simp only [decide_eq_true_eq, Bool.and_eq_true, ne_eq, decide_not, Bool.not_eq_true', Bool.not_eq_false', Bool.or_eq_false_iff, Bool.not_not, decide_eq_false_iff_not]); (try intro hh); (repeat' apply And.intro) <;> (first | omega | (simp only [inR]; omega) | assumption | exact hh.1 | exact hh.2 | exact hh.2.1 | exact hh.2.2 | exact hh.1.1 | exact hh.1.2 | (intro hq; exact ⟨hh, hq⟩) | (intro hq; exact ⟨hh.1, hq⟩) | (simp_all; done)))))
        refine hK17 _ ?_
        clear hK17
        refine W_ret ?_
        simp only [thenQ, blockQ, loopQ, retQ, reduceIte, Nat.reduceEqDiff]
        refine ret0 ?_ rfl rfl (.inr rfl) rfl
        simp only [show Try.f7.results.toList = [ResultVar.tmp 2] from rfl, resAV, resL, look, Nat.reduceEqDiff, reduceIte, tyHull, tdHull, applyUps, noH, isStr, List.length_cons, List.length_nil, Nat.reduceAdd, and_self]
        all_goals (
          first | rfl | (refine congrArg (fun x => some (AV.bool x)) ?_; simp_all; done) | skip)

end Go.Proofs.Ytckkpfojapcmmaa
