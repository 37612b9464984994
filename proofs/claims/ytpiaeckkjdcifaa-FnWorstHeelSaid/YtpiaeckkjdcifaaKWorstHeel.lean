/- Walk over the law laws.FnWorstHeel. No condition. -/
import Derived.Test.YtpiaeckkjdcifaaLoading
import Derived.Test.YtpiaeckkjdcifaaWorstLaw
import Derived.Test.YtpiaeckkjdcifaaBestA
import Derived.Test.YtpiaeckkjdcifaaLoadB
import Derived.Test.YtpiaeckkjdcifaaAlive
import Derived.Test.YtpiaeckkjdcifaaTopU
namespace Go.Proofs.Ytpiaeckkjdcifaa
open Go
set_option linter.unusedVariables false
set_option linter.unusedSimpArgs false

theorem load_perm {b r t : Int} {bs : List BoxD} {p o : List Int} (h : loadB b r t bs p o = true) : o ∈ permF (fullS p) (fullS p).length [] := by
  obtain ⟨h1, h2, h3⟩ := loadB_get h
  have hnd : ∀ k, k ≤ o.length → (o.take k).Nodup := fun k => by
    induction k with
    | zero => intro _; simp
    | succ k ih =>
      intro hk
      have hg := (ord_get (h3 k (by omega))).2.1
      have e : o.take (k + 1) = o.take k ++ [o.getD k 0] := by
        rw [List.take_add_one, List.getElem?_eq_getElem (by omega), Option.toList_some, List.getD_eq_getElem?_getD, List.getElem?_eq_getElem (by omega)]; rfl
      rw [e, List.nodup_append]
      refine ⟨ih (by omega), by simp, fun x hx y hy => ?_⟩
      rw [List.mem_singleton] at hy
      intro exy
      rw [← hy, ← exy] at hg
      exact hg hx
  have hno : o.Nodup := by have := hnd o.length (Nat.le_refl _); rwa [List.take_length] at this
  have hin : ∀ x ∈ o, x ∈ fullS p := fun x hx => by
    obtain ⟨k, hk, e⟩ := mem_getD hx
    have hg := (ord_get (h3 k hk)).1
    rw [e] at hg
    exact full_mem.2 ⟨x.toNat, by omega, by omega, hg.2⟩
  have := perm_mem (fullS p) o [] (by simpa using hno) hin
  rw [show (fullS p).length = o.length by omega]
  simpa using this
/-- No order is better than the best one. -/
theorem best_le {b r t : Int} {bs : List BoxD} {p o : List Int} (h : loadB b r t bs p o = true) (hok : bestOK b r t bs p = true) : 0 ≤ worstR b r t bs p (bestR b r t bs p) ∧ worstR b r t bs p (bestR b r t bs p) ≤ worstR b r t bs p o := by
  obtain ⟨_, h2, h3⟩ := foldB_law b r t bs p (permF (fullS p) (fullS p).length []) ([], -1)
  obtain ⟨h4, h5⟩ := h2 o (load_perm h) (worst_load h)
  rw [bestR, if_pos hok, foldB]
  rcases h3 with h3 | ⟨o', _, h6, h7⟩
  · rw [h3] at h4; simp at h4
  · rw [h6] at h5 ⊢
    exact ⟨h7, h5⟩
theorem best_fin {c : Bool} {x y : Int} {P : Prop} (h : c = true → P ∧ x ≤ y) : (!c || decide (x ≤ y)) = true := by
  cases c with
  | false => rfl
  | true => rw [decide_eq_true (h rfl).2]; rfl
theorem bestR_len (b r t : Int) (bs : List BoxD) (p : List Int) : (bestR b r t bs p).length ≤ (fullS p).length := by
  rw [bestR]
  split
  · obtain ⟨_, _, h3⟩ := foldB_law b r t bs p (permF (fullS p) (fullS p).length []) ([], -1)
    rw [foldB]
    rcases h3 with h3 | ⟨o', h5, h6, h7⟩
    · rw [h3]; exact Nat.zero_le _
    · rw [h6]
      obtain ⟨o2, e1, e2, _⟩ := perm_len _ _ _ _ h5
      rw [e1]; simp [e2]
  · exact Nat.zero_le _

def c_laws_FnWorstHeel : Ctr where
  modes := [.v (.r .u8)]
  al := false
  run := fun xs os => match xs, os with
    | [.rs .u8 b], [] => some ⟨b.length ≤ 9223372036854775807 ∧ ∀ x ∈ b, 0 ≤ x ∧ x ≤ 255, .bool true, [], []⟩
    | _, _ => none
theorem m_laws_FnWorstHeel : Meets Try.prog 12 c_laws_FnWorstHeel := by
  refine meets_of (T := tyT) tyOK Try.func12 (by rfl) rfl (by decide) ?_
  intro args owns R hrun hpre
  simp only [c_laws_FnWorstHeel] at hrun
  split at hrun
  case h_2 => cases hrun
  rename_i b
  cases hrun
  try dsimp only at hpre
  refine ⟨_, rfl, fun E hP hnt hnp => ?_⟩
  replace hnt : E.nt = 98 := hnt
  replace hnp : E.np = 1 := hnp
  have hT : ∀ t d, tyT t = some d → TyOK E.P t d := hP ▸ tyOK
  have hG : ∀ f C, Γof [(17, c_laws_alive), (45, c_impl_HeelOf), (51, c_impl_BestOrder), (53, c_impl_WorstHeel), (54, c_spec_DrawWorstHeel), (55, c_spec_WorstHeel), (56, c_laws_loaded)] f = some C → Meets E.P f C := hΓof (by rw [hP]; exact ⟨m_laws_alive, m_impl_HeelOf, m_impl_BestOrder, m_impl_WorstHeel, m_spec_DrawWorstHeel, m_spec_WorstHeel, m_laws_loaded, trivial⟩)
  try simp only [show Try.f12.ntmps = 98 from rfl]
  refine W_seq (fun K1 hK1 => ?_)
  refine W_region hT hG [] [0] ?_
  rw [hnt]
  simp only [baseS, eq_self, implies_true, if_true, if_false, reduceIte, Nat.reduceBEq, Nat.reduceEqDiff, Nat.reduceLT, Nat.reduceAdd, reduceCtorEq, relC, callOK0, callOK1, fzE, c_spec_DrawWorstHeelR, tyInt, tdInt, tyBytes, tdBytes, tyInts, tdInts, tyHull, tdHull, tyBoxes, tdBoxes, c_laws_alive, c_impl_HeelOf, c_impl_BestOrder, c_impl_WorstHeel, c_spec_DrawWorstHeel, c_spec_WorstHeel, c_laws_loaded, decide_false, room, Nat.reduceLeDiff, Nat.zero_le, storeAV, rowQ, ownInts, FT.of, FT.setf, elems, appAV_I, appI, srcI, ownI, anyI, sameR, appAV_P, appP, srcP, ownP, anyP, rowsAV, appAV, srcRows, srcFlat, reduceDIte, List.length_append, setAll, Option.isSome_some, List.drop_zero, Int.reduceToNat, List.set_cons_zero, List.set_cons_succ, Int.toNat_natCast, bne_self_eq_false]
  repeat (refine And.intro ?_ ?_; focus (first | exact hpre.2 | (simp only [List.length_drop]; omega) | exact hb1 | (intro hh2; exact ⟨hh2, by simp only [inR]; omega⟩) | exact hb2 | exact hb3 | exact hb4 | exact hb5 | exact ⟨by omega, by omega, by rw [List.length_take]; omega⟩ | exact ⟨by omega, by rw [hwp.1, partP_len]; omega⟩ | exact ⟨by omega, by rw [partP_len]; omega⟩ | first | exact ordP (by kernel_rfl) | with_reducible exact rfl | assumption | trivial | (simp only [inR]; omega) | omega | exact ⟨by omega, by omega⟩ | exact ⟨by omega, by omega, by omega⟩ | ((try simp only [decide_eq_true_eq, Bool.and_eq_true, ne_eq, decide_not, Bool.not_eq_true', Bool.not_eq_false', Bool.or_eq_false_iff, Bool.not_not, decide_eq_false_iff_not]); (try intro hh); (repeat' apply And.intro) <;> (first | omega | (simp only [inR]; omega) | assumption | exact hh.1 | exact hh.2 | exact hh.2.1 | exact hh.2.2 | exact hh.1.1 | exact hh.1.2 | (intro hq; exact ⟨hh, hq⟩) | (intro hq; exact ⟨hh.1, hq⟩) | (simp_all; done)))))
  refine hK1 _ ?_
  clear hK1
  refine W_seq (fun K2 hK2 => ?_)
  refine W_seq (fun K3 hK3 => ?_)
  refine W_region hT hG [] [0, 17] ?_
  rw [hnt]
  simp only [baseS, eq_self, implies_true, if_true, if_false, reduceIte, Nat.reduceBEq, Nat.reduceEqDiff, Nat.reduceLT, Nat.reduceAdd, reduceCtorEq, relC, callOK0, callOK1, fzE, c_spec_DrawWorstHeelR, tyInt, tdInt, tyBytes, tdBytes, tyInts, tdInts, tyHull, tdHull, tyBoxes, tdBoxes, c_laws_alive, c_impl_HeelOf, c_impl_BestOrder, c_impl_WorstHeel, c_spec_DrawWorstHeel, c_spec_WorstHeel, c_laws_loaded, decide_false, room, Nat.reduceLeDiff, Nat.zero_le, storeAV, rowQ, ownInts, FT.of, FT.setf, elems, appAV_I, appI, srcI, ownI, anyI, sameR, appAV_P, appP, srcP, ownP, anyP, rowsAV, appAV, srcRows, srcFlat, reduceDIte, List.length_append, setAll, Option.isSome_some, List.drop_zero, Int.reduceToNat, List.set_cons_zero, List.set_cons_succ, Int.toNat_natCast, bne_self_eq_false]
  repeat (refine And.intro ?_ ?_; focus (first | exact hpre.2 | (simp only [List.length_drop]; omega) | exact hb1 | (intro hh2; exact ⟨hh2, by simp only [inR]; omega⟩) | exact hb2 | exact hb3 | exact hb4 | exact hb5 | exact ⟨by omega, by omega, by rw [List.length_take]; omega⟩ | exact ⟨by omega, by rw [hwp.1, partP_len]; omega⟩ | exact ⟨by omega, by rw [partP_len]; omega⟩ | first | exact ordP (by kernel_rfl) | with_reducible exact rfl | assumption | trivial | (simp only [inR]; omega) | omega | exact ⟨by omega, by omega⟩ | exact ⟨by omega, by omega, by omega⟩ | ((try simp only [decide_eq_true_eq, Bool.and_eq_true, ne_eq, decide_not, Bool.not_eq_true', Bool.not_eq_false', Bool.or_eq_false_iff, Bool.not_not, decide_eq_false_iff_not]); (try intro hh); (repeat' apply And.intro) <;> (first | omega | (simp only [inR]; omega) | assumption | exact hh.1 | exact hh.2 | exact hh.2.1 | exact hh.2.2 | exact hh.1.1 | exact hh.1.2 | (intro hq; exact ⟨hh, hq⟩) | (intro hq; exact ⟨hh.1, hq⟩) | (simp_all; done)))))
  refine hK3 _ ?_
  clear hK3
  refine W_cond (b := _) rfl (fun hc4 => ?_) (fun hc4 => ?_)
  · try simp only [decide_eq_true_eq, decide_eq_false_iff_not, ne_eq, Decidable.not_not, Bool.not_eq_true', Bool.not_eq_false', Bool.or_eq_true, Bool.and_eq_true, Bool.or_eq_false_iff, Bool.and_eq_false_iff] at hc4
    refine W_seq (fun K5 hK5 => ?_)
    refine W_region hT hG [] [2] ?_
    rw [hnt]
    simp only [baseS, eq_self, implies_true, if_true, if_false, reduceIte, Nat.reduceBEq, Nat.reduceEqDiff, Nat.reduceLT, Nat.reduceAdd, reduceCtorEq, relC, callOK0, callOK1, fzE, c_spec_DrawWorstHeelR, tyInt, tdInt, tyBytes, tdBytes, tyInts, tdInts, tyHull, tdHull, tyBoxes, tdBoxes, c_laws_alive, c_impl_HeelOf, c_impl_BestOrder, c_impl_WorstHeel, c_spec_DrawWorstHeel, c_spec_WorstHeel, c_laws_loaded, decide_false, room, Nat.reduceLeDiff, Nat.zero_le, storeAV, rowQ, ownInts, FT.of, FT.setf, elems, appAV_I, appI, srcI, ownI, anyI, sameR, appAV_P, appP, srcP, ownP, anyP, rowsAV, appAV, srcRows, srcFlat, reduceDIte, List.length_append, setAll, Option.isSome_some, List.drop_zero, Int.reduceToNat, List.set_cons_zero, List.set_cons_succ, Int.toNat_natCast, bne_self_eq_false]
    repeat (refine And.intro ?_ ?_; focus (first | exact hpre.2 | (simp only [List.length_drop]; omega) | exact hb1 | (intro hh2; exact ⟨hh2, by simp only [inR]; omega⟩) | exact hb2 | exact hb3 | exact hb4 | exact hb5 | exact ⟨by omega, by omega, by rw [List.length_take]; omega⟩ | exact ⟨by omega, by rw [hwp.1, partP_len]; omega⟩ | exact ⟨by omega, by rw [partP_len]; omega⟩ | first | exact ordP (by kernel_rfl) | with_reducible exact rfl | assumption | trivial | (simp only [inR]; omega) | omega | exact ⟨by omega, by omega⟩ | exact ⟨by omega, by omega, by omega⟩ | ((try simp only [decide_eq_true_eq, Bool.and_eq_true, ne_eq, decide_not, Bool.not_eq_true', Bool.not_eq_false', Bool.or_eq_false_iff, Bool.not_not, decide_eq_false_iff_not]); (try intro hh); (repeat' apply And.intro) <;> (first | omega | (simp only [inR]; omega) | assumption | exact hh.1 | exact hh.2 | exact hh.2.1 | exact hh.2.2 | exact hh.1.1 | exact hh.1.2 | (intro hq; exact ⟨hh, hq⟩) | (intro hq; exact ⟨hh.1, hq⟩) | (simp_all; done)))))
    refine hK5 _ ?_
    clear hK5
    refine W_ret ?_
    simp only [thenQ, blockQ, loopQ, retQ, reduceIte, Nat.reduceEqDiff]
    refine ret0 ?_ rfl rfl (.inr rfl) rfl
    simp only [show Try.f12.results.toList = [ResultVar.tmp 2] from rfl, resAV, resL, look, Nat.reduceEqDiff, reduceIte, tyHull, tdHull, applyUps, noH, isStr, List.length_cons, List.length_nil, Nat.reduceAdd, and_self]
    all_goals (
      first | rfl | (refine congrArg (fun x => some (AV.bool x)) ?_; first | (simp_all; done) | exact best_fin hbest) | skip)
  · try simp only [decide_eq_true_eq, decide_eq_false_iff_not, ne_eq, Decidable.not_not, Bool.not_eq_true', Bool.not_eq_false', Bool.or_eq_true, Bool.and_eq_true, Bool.or_eq_false_iff, Bool.and_eq_false_iff] at hc4
    refine W_skip ?_
    simp only [thenQ, blockQ, loopQ, reduceIte, Nat.reduceEqDiff]
    refine hK2 _ ?_
    clear hK2
    refine W_seq (fun K6 hK6 => ?_)
    refine W_region hT hG [] [3, 4, 5, 6] ?_
    rw [hnt]
    simp only [baseS, eq_self, implies_true, if_true, if_false, reduceIte, Nat.reduceBEq, Nat.reduceEqDiff, Nat.reduceLT, Nat.reduceAdd, reduceCtorEq, relC, callOK0, callOK1, fzE, c_spec_DrawWorstHeelR, tyInt, tdInt, tyBytes, tdBytes, tyInts, tdInts, tyHull, tdHull, tyBoxes, tdBoxes, c_laws_alive, c_impl_HeelOf, c_impl_BestOrder, c_impl_WorstHeel, c_spec_DrawWorstHeel, c_spec_WorstHeel, c_laws_loaded, decide_false, room, Nat.reduceLeDiff, Nat.zero_le, storeAV, rowQ, ownInts, FT.of, FT.setf, elems, appAV_I, appI, srcI, ownI, anyI, sameR, appAV_P, appP, srcP, ownP, anyP, rowsAV, appAV, srcRows, srcFlat, reduceDIte, List.length_append, setAll, Option.isSome_some, List.drop_zero, Int.reduceToNat, List.set_cons_zero, List.set_cons_succ, Int.toNat_natCast, bne_self_eq_false]
    repeat (refine And.intro ?_ ?_; focus (first | exact hpre.2 | (simp only [List.length_drop]; omega) | exact hb1 | (intro hh2; exact ⟨hh2, by simp only [inR]; omega⟩) | exact hb2 | exact hb3 | exact hb4 | exact hb5 | exact ⟨by omega, by omega, by rw [List.length_take]; omega⟩ | exact ⟨by omega, by rw [hwp.1, partP_len]; omega⟩ | exact ⟨by omega, by rw [partP_len]; omega⟩ | first | exact ordP (by kernel_rfl) | with_reducible exact rfl | assumption | trivial | (simp only [inR]; omega) | omega | exact ⟨by omega, by omega⟩ | exact ⟨by omega, by omega, by omega⟩ | ((try simp only [decide_eq_true_eq, Bool.and_eq_true, ne_eq, decide_not, Bool.not_eq_true', Bool.not_eq_false', Bool.or_eq_false_iff, Bool.not_not, decide_eq_false_iff_not]); (try intro hh); (repeat' apply And.intro) <;> (first | omega | (simp only [inR]; omega) | assumption | exact hh.1 | exact hh.2 | exact hh.2.1 | exact hh.2.2 | exact hh.1.1 | exact hh.1.2 | (intro hq; exact ⟨hh, hq⟩) | (intro hq; exact ⟨hh.1, hq⟩) | (simp_all; done)))))
    rintro _ ⟨y1, y2, y3, bs, pl, o, rfl, hbl, hpl, hol⟩
    have hb1 : bs.length ≤ 9223372036854775807 ∧ pl.length ≤ 9223372036854775807 := ⟨by omega, by omega⟩
    have hb2 : bs.length ≤ 9223372036854775807 ∧ pl.length ≤ 1099511627775 := ⟨by omega, by omega⟩
    have hb3 : bs.length ≤ 9223372036854775807 ∧ pl.length ≤ 9223372036854775807 ∧ o.length ≤ 9223372036854775807 := ⟨by omega, by omega, by omega⟩
    have hb4 : (bs.length ≤ 9223372036854775807 ∧ pl.length ≤ 9223372036854775807) ∧ o.length ≤ 9223372036854775807 := ⟨hb1, by omega⟩
    have hfl := full_le pl
    have hbl2 := bestR_len y1 y2 y3 bs pl
    have hb5 : (bs.length ≤ 9223372036854775807 ∧ pl.length ≤ 9223372036854775807) ∧ (bestR y1 y2 y3 bs pl).length ≤ 9223372036854775807 := ⟨hb1, by omega⟩
    have hwn := @worst_neg y1 y2 y3 bs pl o
    have hwl := @worst_nn y1 y2 y3 bs pl o
    simp only [baseS, eq_self, implies_true, if_true, if_false, reduceIte, Nat.reduceBEq, Nat.reduceEqDiff, Nat.reduceLT, Nat.reduceAdd, reduceCtorEq, relC, callOK0, callOK1, fzE, c_spec_DrawWorstHeelR, tyInt, tdInt, tyBytes, tdBytes, tyInts, tdInts, tyHull, tdHull, tyBoxes, tdBoxes, c_laws_alive, c_impl_HeelOf, c_impl_BestOrder, c_impl_WorstHeel, c_spec_DrawWorstHeel, c_spec_WorstHeel, c_laws_loaded, decide_false, room, Nat.reduceLeDiff, Nat.zero_le, storeAV, rowQ, ownInts, FT.of, FT.setf, elems, appAV_I, appI, srcI, ownI, anyI, sameR, appAV_P, appP, srcP, ownP, anyP, rowsAV, appAV, srcRows, srcFlat, reduceDIte, List.length_append, setAll, Option.isSome_some, List.drop_zero, Int.reduceToNat, List.set_cons_zero, List.set_cons_succ, Int.toNat_natCast, bne_self_eq_false]
    repeat (refine And.intro ?_ ?_; focus (first | exact hpre.2 | (simp only [List.length_drop]; omega) | exact hb1 | (intro hh2; exact ⟨hh2, by simp only [inR]; omega⟩) | exact hb2 | exact hb3 | exact hb4 | exact hb5 | exact ⟨by omega, by omega, by rw [List.length_take]; omega⟩ | exact ⟨by omega, by rw [hwp.1, partP_len]; omega⟩ | exact ⟨by omega, by rw [partP_len]; omega⟩ | first | exact ordP (by kernel_rfl) | with_reducible exact rfl | assumption | trivial | (simp only [inR]; omega) | omega | exact ⟨by omega, by omega⟩ | exact ⟨by omega, by omega, by omega⟩ | ((try simp only [decide_eq_true_eq, Bool.and_eq_true, ne_eq, decide_not, Bool.not_eq_true', Bool.not_eq_false', Bool.or_eq_false_iff, Bool.not_not, decide_eq_false_iff_not]); (try intro hh); (repeat' apply And.intro) <;> (first | omega | (simp only [inR]; omega) | assumption | exact hh.1 | exact hh.2 | exact hh.2.1 | exact hh.2.2 | exact hh.1.1 | exact hh.1.2 | (intro hq; exact ⟨hh, hq⟩) | (intro hq; exact ⟨hh.1, hq⟩) | (simp_all; done)))))
    refine hK6 _ ?_
    clear hK6
    refine W_seq (fun K7 hK7 => ?_)
    refine W_region hT hG [] [3, 4, 5, 6, 7] ?_
    rw [hnt]
    simp only [baseS, eq_self, implies_true, if_true, if_false, reduceIte, Nat.reduceBEq, Nat.reduceEqDiff, Nat.reduceLT, Nat.reduceAdd, reduceCtorEq, relC, callOK0, callOK1, fzE, c_spec_DrawWorstHeelR, tyInt, tdInt, tyBytes, tdBytes, tyInts, tdInts, tyHull, tdHull, tyBoxes, tdBoxes, c_laws_alive, c_impl_HeelOf, c_impl_BestOrder, c_impl_WorstHeel, c_spec_DrawWorstHeel, c_spec_WorstHeel, c_laws_loaded, decide_false, room, Nat.reduceLeDiff, Nat.zero_le, storeAV, rowQ, ownInts, FT.of, FT.setf, elems, appAV_I, appI, srcI, ownI, anyI, sameR, appAV_P, appP, srcP, ownP, anyP, rowsAV, appAV, srcRows, srcFlat, reduceDIte, List.length_append, setAll, Option.isSome_some, List.drop_zero, Int.reduceToNat, List.set_cons_zero, List.set_cons_succ, Int.toNat_natCast, bne_self_eq_false]
    repeat (refine And.intro ?_ ?_; focus (first | exact hpre.2 | (simp only [List.length_drop]; omega) | exact hb1 | (intro hh2; exact ⟨hh2, by simp only [inR]; omega⟩) | exact hb2 | exact hb3 | exact hb4 | exact hb5 | exact ⟨by omega, by omega, by rw [List.length_take]; omega⟩ | exact ⟨by omega, by rw [hwp.1, partP_len]; omega⟩ | exact ⟨by omega, by rw [partP_len]; omega⟩ | first | exact ordP (by kernel_rfl) | with_reducible exact rfl | assumption | trivial | (simp only [inR]; omega) | omega | exact ⟨by omega, by omega⟩ | exact ⟨by omega, by omega, by omega⟩ | ((try simp only [decide_eq_true_eq, Bool.and_eq_true, ne_eq, decide_not, Bool.not_eq_true', Bool.not_eq_false', Bool.or_eq_false_iff, Bool.not_not, decide_eq_false_iff_not]); (try intro hh); (repeat' apply And.intro) <;> (first | omega | (simp only [inR]; omega) | assumption | exact hh.1 | exact hh.2 | exact hh.2.1 | exact hh.2.2 | exact hh.1.1 | exact hh.1.2 | (intro hq; exact ⟨hh, hq⟩) | (intro hq; exact ⟨hh.1, hq⟩) | (simp_all; done)))))
    refine hK7 _ ?_
    clear hK7
    refine W_seq (fun K8 hK8 => ?_)
    refine W_seq (fun K9 hK9 => ?_)
    refine W_region hT hG [] [3, 4, 5, 6, 7, 36] ?_
    rw [hnt]
    simp only [baseS, eq_self, implies_true, if_true, if_false, reduceIte, Nat.reduceBEq, Nat.reduceEqDiff, Nat.reduceLT, Nat.reduceAdd, reduceCtorEq, relC, callOK0, callOK1, fzE, c_spec_DrawWorstHeelR, tyInt, tdInt, tyBytes, tdBytes, tyInts, tdInts, tyHull, tdHull, tyBoxes, tdBoxes, c_laws_alive, c_impl_HeelOf, c_impl_BestOrder, c_impl_WorstHeel, c_spec_DrawWorstHeel, c_spec_WorstHeel, c_laws_loaded, decide_false, room, Nat.reduceLeDiff, Nat.zero_le, storeAV, rowQ, ownInts, FT.of, FT.setf, elems, appAV_I, appI, srcI, ownI, anyI, sameR, appAV_P, appP, srcP, ownP, anyP, rowsAV, appAV, srcRows, srcFlat, reduceDIte, List.length_append, setAll, Option.isSome_some, List.drop_zero, Int.reduceToNat, List.set_cons_zero, List.set_cons_succ, Int.toNat_natCast, bne_self_eq_false]
    repeat (refine And.intro ?_ ?_; focus (first | exact hpre.2 | (simp only [List.length_drop]; omega) | exact hb1 | (intro hh2; exact ⟨hh2, by simp only [inR]; omega⟩) | exact hb2 | exact hb3 | exact hb4 | exact hb5 | exact ⟨by omega, by omega, by rw [List.length_take]; omega⟩ | exact ⟨by omega, by rw [hwp.1, partP_len]; omega⟩ | exact ⟨by omega, by rw [partP_len]; omega⟩ | first | exact ordP (by kernel_rfl) | with_reducible exact rfl | assumption | trivial | (simp only [inR]; omega) | omega | exact ⟨by omega, by omega⟩ | exact ⟨by omega, by omega, by omega⟩ | ((try simp only [decide_eq_true_eq, Bool.and_eq_true, ne_eq, decide_not, Bool.not_eq_true', Bool.not_eq_false', Bool.or_eq_false_iff, Bool.not_not, decide_eq_false_iff_not]); (try intro hh); (repeat' apply And.intro) <;> (first | omega | (simp only [inR]; omega) | assumption | exact hh.1 | exact hh.2 | exact hh.2.1 | exact hh.2.2 | exact hh.1.1 | exact hh.1.2 | (intro hq; exact ⟨hh, hq⟩) | (intro hq; exact ⟨hh.1, hq⟩) | (simp_all; done)))))
    refine hK9 _ ?_
    clear hK9
    refine W_cond (b := _) rfl (fun hc10 => ?_) (fun hc10 => ?_)
    · try simp only [decide_eq_true_eq, decide_eq_false_iff_not, ne_eq, Decidable.not_not, Bool.not_eq_true', Bool.not_eq_false', Bool.or_eq_true, Bool.and_eq_true, Bool.or_eq_false_iff, Bool.and_eq_false_iff] at hc10
      first | exact absurd rfl hc10 | (simp at hc10; done) | exact absurd trivial hc10
    · try simp only [decide_eq_true_eq, decide_eq_false_iff_not, ne_eq, Decidable.not_not, Bool.not_eq_true', Bool.not_eq_false', Bool.or_eq_true, Bool.and_eq_true, Bool.or_eq_false_iff, Bool.and_eq_false_iff] at hc10
      refine W_skip ?_
      simp only [thenQ, blockQ, loopQ, reduceIte, Nat.reduceEqDiff]
      refine hK8 _ ?_
      clear hK8
      refine W_seq (fun K11 hK11 => ?_)
      refine W_seq (fun K12 hK12 => ?_)
      refine W_region hT hG [] [3, 4, 5, 6, 7, 38] ?_
      rw [hnt]
      simp only [baseS, eq_self, implies_true, if_true, if_false, reduceIte, Nat.reduceBEq, Nat.reduceEqDiff, Nat.reduceLT, Nat.reduceAdd, reduceCtorEq, relC, callOK0, callOK1, fzE, c_spec_DrawWorstHeelR, tyInt, tdInt, tyBytes, tdBytes, tyInts, tdInts, tyHull, tdHull, tyBoxes, tdBoxes, c_laws_alive, c_impl_HeelOf, c_impl_BestOrder, c_impl_WorstHeel, c_spec_DrawWorstHeel, c_spec_WorstHeel, c_laws_loaded, decide_false, room, Nat.reduceLeDiff, Nat.zero_le, storeAV, rowQ, ownInts, FT.of, FT.setf, elems, appAV_I, appI, srcI, ownI, anyI, sameR, appAV_P, appP, srcP, ownP, anyP, rowsAV, appAV, srcRows, srcFlat, reduceDIte, List.length_append, setAll, Option.isSome_some, List.drop_zero, Int.reduceToNat, List.set_cons_zero, List.set_cons_succ, Int.toNat_natCast, bne_self_eq_false]
      repeat (refine And.intro ?_ ?_; focus (first | exact hpre.2 | (simp only [List.length_drop]; omega) | exact hb1 | (intro hh2; exact ⟨hh2, by simp only [inR]; omega⟩) | exact hb2 | exact hb3 | exact hb4 | exact hb5 | exact ⟨by omega, by omega, by rw [List.length_take]; omega⟩ | exact ⟨by omega, by rw [hwp.1, partP_len]; omega⟩ | exact ⟨by omega, by rw [partP_len]; omega⟩ | first | exact ordP (by kernel_rfl) | with_reducible exact rfl | assumption | trivial | (simp only [inR]; omega) | omega | exact ⟨by omega, by omega⟩ | exact ⟨by omega, by omega, by omega⟩ | ((try simp only [decide_eq_true_eq, Bool.and_eq_true, ne_eq, decide_not, Bool.not_eq_true', Bool.not_eq_false', Bool.or_eq_false_iff, Bool.not_not, decide_eq_false_iff_not]); (try intro hh); (repeat' apply And.intro) <;> (first | omega | (simp only [inR]; omega) | assumption | exact hh.1 | exact hh.2 | exact hh.2.1 | exact hh.2.2 | exact hh.1.1 | exact hh.1.2 | (intro hq; exact ⟨hh, hq⟩) | (intro hq; exact ⟨hh.1, hq⟩) | (simp_all; done)))))
      refine hK12 _ ?_
      clear hK12
      refine W_cond (b := _) rfl (fun hc13 => ?_) (fun hc13 => ?_)
      · try simp only [decide_eq_true_eq, decide_eq_false_iff_not, ne_eq, Decidable.not_not, Bool.not_eq_true', Bool.not_eq_false', Bool.or_eq_true, Bool.and_eq_true, Bool.or_eq_false_iff, Bool.and_eq_false_iff] at hc13
        refine W_seq (fun K14 hK14 => ?_)
        refine W_region hT hG [] [2] ?_
        rw [hnt]
        simp only [baseS, eq_self, implies_true, if_true, if_false, reduceIte, Nat.reduceBEq, Nat.reduceEqDiff, Nat.reduceLT, Nat.reduceAdd, reduceCtorEq, relC, callOK0, callOK1, fzE, c_spec_DrawWorstHeelR, tyInt, tdInt, tyBytes, tdBytes, tyInts, tdInts, tyHull, tdHull, tyBoxes, tdBoxes, c_laws_alive, c_impl_HeelOf, c_impl_BestOrder, c_impl_WorstHeel, c_spec_DrawWorstHeel, c_spec_WorstHeel, c_laws_loaded, decide_false, room, Nat.reduceLeDiff, Nat.zero_le, storeAV, rowQ, ownInts, FT.of, FT.setf, elems, appAV_I, appI, srcI, ownI, anyI, sameR, appAV_P, appP, srcP, ownP, anyP, rowsAV, appAV, srcRows, srcFlat, reduceDIte, List.length_append, setAll, Option.isSome_some, List.drop_zero, Int.reduceToNat, List.set_cons_zero, List.set_cons_succ, Int.toNat_natCast, bne_self_eq_false]
        repeat (refine And.intro ?_ ?_; focus (first | exact hpre.2 | (simp only [List.length_drop]; omega) | exact hb1 | (intro hh2; exact ⟨hh2, by simp only [inR]; omega⟩) | exact hb2 | exact hb3 | exact hb4 | exact hb5 | exact ⟨by omega, by omega, by rw [List.length_take]; omega⟩ | exact ⟨by omega, by rw [hwp.1, partP_len]; omega⟩ | exact ⟨by omega, by rw [partP_len]; omega⟩ | first | exact ordP (by kernel_rfl) | with_reducible exact rfl | assumption | trivial | (simp only [inR]; omega) | omega | exact ⟨by omega, by omega⟩ | exact ⟨by omega, by omega, by omega⟩ | ((try simp only [decide_eq_true_eq, Bool.and_eq_true, ne_eq, decide_not, Bool.not_eq_true', Bool.not_eq_false', Bool.or_eq_false_iff, Bool.not_not, decide_eq_false_iff_not]); (try intro hh); (repeat' apply And.intro) <;> (first | omega | (simp only [inR]; omega) | assumption | exact hh.1 | exact hh.2 | exact hh.2.1 | exact hh.2.2 | exact hh.1.1 | exact hh.1.2 | (intro hq; exact ⟨hh, hq⟩) | (intro hq; exact ⟨hh.1, hq⟩) | (simp_all; done)))))
        refine hK14 _ ?_
        clear hK14
        refine W_ret ?_
        simp only [thenQ, blockQ, loopQ, retQ, reduceIte, Nat.reduceEqDiff]
        refine ret0 ?_ rfl rfl (.inr rfl) rfl
        simp only [show Try.f12.results.toList = [ResultVar.tmp 2] from rfl, resAV, resL, look, Nat.reduceEqDiff, reduceIte, tyHull, tdHull, applyUps, noH, isStr, List.length_cons, List.length_nil, Nat.reduceAdd, and_self]
        all_goals (
          first | rfl | (refine congrArg (fun x => some (AV.bool x)) ?_; first | (simp_all; done) | exact best_fin hbest) | skip)
      · try simp only [decide_eq_true_eq, decide_eq_false_iff_not, ne_eq, Decidable.not_not, Bool.not_eq_true', Bool.not_eq_false', Bool.or_eq_true, Bool.and_eq_true, Bool.or_eq_false_iff, Bool.and_eq_false_iff] at hc13
        refine W_skip ?_
        simp only [thenQ, blockQ, loopQ, reduceIte, Nat.reduceEqDiff]
        refine hK11 _ ?_
        clear hK11
        refine W_seq (fun K15 hK15 => ?_)
        refine W_seq (fun K16 hK16 => ?_)
        refine W_region hT hG [] [3, 4, 5, 6, 7, 8] ?_
        rw [hnt]
        have hld : loadB y1 y2 y3 bs pl o = true := hwl (by omega)
        have hbest := fun h => @best_le y1 y2 y3 bs pl o hld h
        simp only [baseS, eq_self, implies_true, if_true, if_false, reduceIte, Nat.reduceBEq, Nat.reduceEqDiff, Nat.reduceLT, Nat.reduceAdd, reduceCtorEq, relC, callOK0, callOK1, fzE, c_spec_DrawWorstHeelR, tyInt, tdInt, tyBytes, tdBytes, tyInts, tdInts, tyHull, tdHull, tyBoxes, tdBoxes, c_laws_alive, c_impl_HeelOf, c_impl_BestOrder, c_impl_WorstHeel, c_spec_DrawWorstHeel, c_spec_WorstHeel, c_laws_loaded, decide_false, room, Nat.reduceLeDiff, Nat.zero_le, storeAV, rowQ, ownInts, FT.of, FT.setf, elems, appAV_I, appI, srcI, ownI, anyI, sameR, appAV_P, appP, srcP, ownP, anyP, rowsAV, appAV, srcRows, srcFlat, reduceDIte, List.length_append, setAll, Option.isSome_some, List.drop_zero, Int.reduceToNat, List.set_cons_zero, List.set_cons_succ, Int.toNat_natCast, bne_self_eq_false]
        repeat (refine And.intro ?_ ?_; focus (first | exact hpre.2 | (simp only [List.length_drop]; omega) | exact hb1 | (intro hh2; exact ⟨hh2, by simp only [inR]; omega⟩) | exact hb2 | exact hb3 | exact hb4 | exact hb5 | exact ⟨by omega, by omega, by rw [List.length_take]; omega⟩ | exact ⟨by omega, by rw [hwp.1, partP_len]; omega⟩ | exact ⟨by omega, by rw [partP_len]; omega⟩ | first | exact ordP (by kernel_rfl) | with_reducible exact rfl | assumption | trivial | (simp only [inR]; omega) | omega | exact ⟨by omega, by omega⟩ | exact ⟨by omega, by omega, by omega⟩ | ((try simp only [decide_eq_true_eq, Bool.and_eq_true, ne_eq, decide_not, Bool.not_eq_true', Bool.not_eq_false', Bool.or_eq_false_iff, Bool.not_not, decide_eq_false_iff_not]); (try intro hh); (repeat' apply And.intro) <;> (first | omega | (simp only [inR]; omega) | assumption | exact hh.1 | exact hh.2 | exact hh.2.1 | exact hh.2.2 | exact hh.1.1 | exact hh.1.2 | (intro hq; exact ⟨hh, hq⟩) | (intro hq; exact ⟨hh.1, hq⟩) | (simp_all; done)))))
        refine hK16 _ ?_
        clear hK16
        refine W_block ?_
        refine W_loop (α := Int) [(3, .var), (4, .as), (5, .as), (6, .as), (7, .as), (8, .as)] (fun k => ⟨[(3, .op 3 0), (4, .rs .box bs), (5, .rs .i64 pl), (6, .rs .i64 o), (7, .int (worstR y1 y2 y3 bs pl o)), (8, .int k)], [(3, some (.var [.int y1, .int y2, .int y3]))], 98⟩) (fun k => 0 ≤ k ∧ k ≤ o.length + 1) (fun k => (o.length + 1 - k).toNat) 0 ?_ ?_ ?_
        · (try simp only [hnt, hnp]); rfl
        · exact ⟨by omega, by omega⟩
        rintro k hk
        refine W_seq (fun K18 hK18 => ?_)
        refine W_seq (fun K19 hK19 => ?_)
        refine W_region hT hG [] [3, 4, 5, 6, 7, 8, 47] ?_
        rw [hnt]
        simp only [baseS, eq_self, implies_true, if_true, if_false, reduceIte, Nat.reduceBEq, Nat.reduceEqDiff, Nat.reduceLT, Nat.reduceAdd, reduceCtorEq, relC, callOK0, callOK1, fzE, c_spec_DrawWorstHeelR, tyInt, tdInt, tyBytes, tdBytes, tyInts, tdInts, tyHull, tdHull, tyBoxes, tdBoxes, c_laws_alive, c_impl_HeelOf, c_impl_BestOrder, c_impl_WorstHeel, c_spec_DrawWorstHeel, c_spec_WorstHeel, c_laws_loaded, decide_false, room, Nat.reduceLeDiff, Nat.zero_le, storeAV, rowQ, ownInts, FT.of, FT.setf, elems, appAV_I, appI, srcI, ownI, anyI, sameR, appAV_P, appP, srcP, ownP, anyP, rowsAV, appAV, srcRows, srcFlat, reduceDIte, List.length_append, setAll, Option.isSome_some, List.drop_zero, Int.reduceToNat, List.set_cons_zero, List.set_cons_succ, Int.toNat_natCast, bne_self_eq_false]
        repeat (refine And.intro ?_ ?_; focus (first | exact hpre.2 | (simp only [List.length_drop]; omega) | exact hb1 | (intro hh2; exact ⟨hh2, by simp only [inR]; omega⟩) | exact hb2 | exact hb3 | exact hb4 | exact hb5 | exact ⟨by omega, by omega, by rw [List.length_take]; omega⟩ | exact ⟨by omega, by rw [hwp.1, partP_len]; omega⟩ | exact ⟨by omega, by rw [partP_len]; omega⟩ | first | exact ordP (by kernel_rfl) | with_reducible exact rfl | assumption | trivial | (simp only [inR]; omega) | omega | exact ⟨by omega, by omega⟩ | exact ⟨by omega, by omega, by omega⟩ | ((try simp only [decide_eq_true_eq, Bool.and_eq_true, ne_eq, decide_not, Bool.not_eq_true', Bool.not_eq_false', Bool.or_eq_false_iff, Bool.not_not, decide_eq_false_iff_not]); (try intro hh); (repeat' apply And.intro) <;> (first | omega | (simp only [inR]; omega) | assumption | exact hh.1 | exact hh.2 | exact hh.2.1 | exact hh.2.2 | exact hh.1.1 | exact hh.1.2 | (intro hq; exact ⟨hh, hq⟩) | (intro hq; exact ⟨hh.1, hq⟩) | (simp_all; done)))))
        refine hK19 _ ?_
        clear hK19
        refine W_cond (b := _) rfl (fun hc20 => ?_) (fun hc20 => ?_)
        · try simp only [decide_eq_true_eq, decide_eq_false_iff_not, ne_eq, Decidable.not_not, Bool.not_eq_true', Bool.not_eq_false', Bool.or_eq_true, Bool.and_eq_true, Bool.or_eq_false_iff, Bool.and_eq_false_iff] at hc20
          refine W_skip ?_
          simp only [thenQ, blockQ, loopQ, reduceIte, Nat.reduceEqDiff]
          refine hK18 _ ?_
          clear hK18
          refine W_seq (fun K21 hK21 => ?_)
          refine W_block ?_
          refine W_seq (fun K22 hK22 => ?_)
          refine W_region_draw hT hG (by rw [hP]; exact draws_ok) [] [3, 4, 5, 6, 7, 8, 9] ?_
          rw [hnt]
          have hwp := worst_part hld (k := k.toNat) (by omega)
          simp only [baseS, eq_self, implies_true, if_true, if_false, reduceIte, Nat.reduceBEq, Nat.reduceEqDiff, Nat.reduceLT, Nat.reduceAdd, reduceCtorEq, relC, callOK0, callOK1, fzE, c_spec_DrawWorstHeelR, tyInt, tdInt, tyBytes, tdBytes, tyInts, tdInts, tyHull, tdHull, tyBoxes, tdBoxes, c_laws_alive, c_impl_HeelOf, c_impl_BestOrder, c_impl_WorstHeel, c_spec_DrawWorstHeel, c_spec_WorstHeel, c_laws_loaded, decide_false, room, Nat.reduceLeDiff, Nat.zero_le, storeAV, rowQ, ownInts, FT.of, FT.setf, elems, appAV_I, appI, srcI, ownI, anyI, sameR, appAV_P, appP, srcP, ownP, anyP, rowsAV, appAV, srcRows, srcFlat, reduceDIte, List.length_append, setAll, Option.isSome_some, List.drop_zero, Int.reduceToNat, List.set_cons_zero, List.set_cons_succ, Int.toNat_natCast, bne_self_eq_false, hwp.1]
          repeat (refine And.intro ?_ ?_; focus (first | exact hpre.2 | (simp only [List.length_drop]; omega) | exact hb1 | (intro hh2; exact ⟨hh2, by simp only [inR]; omega⟩) | exact hb2 | exact hb3 | exact hb4 | exact hb5 | exact ⟨by omega, by omega, by rw [List.length_take]; omega⟩ | exact ⟨by omega, by rw [hwp.1, partP_len]; omega⟩ | exact ⟨by omega, by rw [partP_len]; omega⟩ | first | exact ordP (by kernel_rfl) | with_reducible exact rfl | assumption | trivial | (simp only [inR]; omega) | omega | exact ⟨by omega, by omega⟩ | exact ⟨by omega, by omega, by omega⟩ | ((try simp only [decide_eq_true_eq, Bool.and_eq_true, ne_eq, decide_not, Bool.not_eq_true', Bool.not_eq_false', Bool.or_eq_false_iff, Bool.not_not, decide_eq_false_iff_not]); (try intro hh); (repeat' apply And.intro) <;> (first | omega | (simp only [inR]; omega) | assumption | exact hh.1 | exact hh.2 | exact hh.2.1 | exact hh.2.2 | exact hh.1.1 | exact hh.1.2 | (intro hq; exact ⟨hh, hq⟩) | (intro hq; exact ⟨hh.1, hq⟩) | (simp_all; done)))))
          refine hK22 _ ?_
          clear hK22
          refine W_seq (fun K23 hK23 => ?_)
          refine W_region hT hG [] [3, 4, 5, 6, 7, 8, 11, 12] ?_
          rw [hnt]
          simp only [baseS, eq_self, implies_true, if_true, if_false, reduceIte, Nat.reduceBEq, Nat.reduceEqDiff, Nat.reduceLT, Nat.reduceAdd, reduceCtorEq, relC, callOK0, callOK1, fzE, c_spec_DrawWorstHeelR, tyInt, tdInt, tyBytes, tdBytes, tyInts, tdInts, tyHull, tdHull, tyBoxes, tdBoxes, c_laws_alive, c_impl_HeelOf, c_impl_BestOrder, c_impl_WorstHeel, c_spec_DrawWorstHeel, c_spec_WorstHeel, c_laws_loaded, decide_false, room, Nat.reduceLeDiff, Nat.zero_le, storeAV, rowQ, ownInts, FT.of, FT.setf, elems, appAV_I, appI, srcI, ownI, anyI, sameR, appAV_P, appP, srcP, ownP, anyP, rowsAV, appAV, srcRows, srcFlat, reduceDIte, List.length_append, setAll, Option.isSome_some, List.drop_zero, Int.reduceToNat, List.set_cons_zero, List.set_cons_succ, Int.toNat_natCast, bne_self_eq_false, hwp.2.1]
          repeat (refine And.intro ?_ ?_; focus (first | exact hpre.2 | (simp only [List.length_drop]; omega) | exact hb1 | (intro hh2; exact ⟨hh2, by simp only [inR]; omega⟩) | exact hb2 | exact hb3 | exact hb4 | exact hb5 | exact ⟨by omega, by omega, by rw [List.length_take]; omega⟩ | exact ⟨by omega, by rw [hwp.1, partP_len]; omega⟩ | exact ⟨by omega, by rw [partP_len]; omega⟩ | first | exact ordP (by kernel_rfl) | with_reducible exact rfl | assumption | trivial | (simp only [inR]; omega) | omega | exact ⟨by omega, by omega⟩ | exact ⟨by omega, by omega, by omega⟩ | ((try simp only [decide_eq_true_eq, Bool.and_eq_true, ne_eq, decide_not, Bool.not_eq_true', Bool.not_eq_false', Bool.or_eq_false_iff, Bool.not_not, decide_eq_false_iff_not]); (try intro hh); (repeat' apply And.intro) <;> (first | omega | (simp only [inR]; omega) | assumption | exact hh.1 | exact hh.2 | exact hh.2.1 | exact hh.2.2 | exact hh.1.1 | exact hh.1.2 | (intro hq; exact ⟨hh, hq⟩) | (intro hq; exact ⟨hh.1, hq⟩) | (simp_all; done)))))
          refine hK23 _ ?_
          clear hK23
          refine W_seq (fun K24 hK24 => ?_)
          refine W_region hT hG [] [3, 4, 5, 6, 7, 8, 79] ?_
          rw [hnt]
          have hh := heelR_le y1 y2 y3 bs (partP pl o k.toNat)
          simp only [baseS, eq_self, implies_true, if_true, if_false, reduceIte, Nat.reduceBEq, Nat.reduceEqDiff, Nat.reduceLT, Nat.reduceAdd, reduceCtorEq, relC, callOK0, callOK1, fzE, c_spec_DrawWorstHeelR, tyInt, tdInt, tyBytes, tdBytes, tyInts, tdInts, tyHull, tdHull, tyBoxes, tdBoxes, c_laws_alive, c_impl_HeelOf, c_impl_BestOrder, c_impl_WorstHeel, c_spec_DrawWorstHeel, c_spec_WorstHeel, c_laws_loaded, decide_false, room, Nat.reduceLeDiff, Nat.zero_le, storeAV, rowQ, ownInts, FT.of, FT.setf, elems, appAV_I, appI, srcI, ownI, anyI, sameR, appAV_P, appP, srcP, ownP, anyP, rowsAV, appAV, srcRows, srcFlat, reduceDIte, List.length_append, setAll, Option.isSome_some, List.drop_zero, Int.reduceToNat, List.set_cons_zero, List.set_cons_succ, Int.toNat_natCast, bne_self_eq_false]
          repeat (refine And.intro ?_ ?_; focus (first | exact hpre.2 | (simp only [List.length_drop]; omega) | exact hb1 | (intro hh2; exact ⟨hh2, by simp only [inR]; omega⟩) | exact hb2 | exact hb3 | exact hb4 | exact hb5 | exact ⟨by omega, by omega, by rw [List.length_take]; omega⟩ | exact ⟨by omega, by rw [hwp.1, partP_len]; omega⟩ | exact ⟨by omega, by rw [partP_len]; omega⟩ | first | exact ordP (by kernel_rfl) | with_reducible exact rfl | assumption | trivial | (simp only [inR]; omega) | omega | exact ⟨by omega, by omega⟩ | exact ⟨by omega, by omega, by omega⟩ | ((try simp only [decide_eq_true_eq, Bool.and_eq_true, ne_eq, decide_not, Bool.not_eq_true', Bool.not_eq_false', Bool.or_eq_false_iff, Bool.not_not, decide_eq_false_iff_not]); (try intro hh); (repeat' apply And.intro) <;> (first | omega | (simp only [inR]; omega) | assumption | exact hh.1 | exact hh.2 | exact hh.2.1 | exact hh.2.2 | exact hh.1.1 | exact hh.1.2 | (intro hq; exact ⟨hh, hq⟩) | (intro hq; exact ⟨hh.1, hq⟩) | (simp_all; done)))))
          refine hK24 _ ?_
          clear hK24
          refine W_cond (b := _) rfl (fun hc25 => ?_) (fun hc25 => ?_)
          · try simp only [decide_eq_true_eq, decide_eq_false_iff_not, ne_eq, Decidable.not_not, Bool.not_eq_true', Bool.not_eq_false', Bool.or_eq_true, Bool.and_eq_true, Bool.or_eq_false_iff, Bool.and_eq_false_iff] at hc25
            have h8 := hwp.2.2
            first | (exfalso; omega) | (simp_all; done) | (rcases hc25 with (h | h) | h <;> first | omega | (simp at h; done))
          · try simp only [decide_eq_true_eq, decide_eq_false_iff_not, ne_eq, Decidable.not_not, Bool.not_eq_true', Bool.not_eq_false', Bool.or_eq_true, Bool.and_eq_true, Bool.or_eq_false_iff, Bool.and_eq_false_iff] at hc25
            refine W_skip ?_
            simp only [thenQ, blockQ, loopQ, reduceIte, Nat.reduceEqDiff]
            refine hK21 _ ?_
            clear hK21
            refine W_region hT hG [] [3, 4, 5, 6, 7, 8] ?_
            rw [hnt]
            simp only [baseS, eq_self, implies_true, if_true, if_false, reduceIte, Nat.reduceBEq, Nat.reduceEqDiff, Nat.reduceLT, Nat.reduceAdd, reduceCtorEq, relC, callOK0, callOK1, fzE, c_spec_DrawWorstHeelR, tyInt, tdInt, tyBytes, tdBytes, tyInts, tdInts, tyHull, tdHull, tyBoxes, tdBoxes, c_laws_alive, c_impl_HeelOf, c_impl_BestOrder, c_impl_WorstHeel, c_spec_DrawWorstHeel, c_spec_WorstHeel, c_laws_loaded, decide_false, room, Nat.reduceLeDiff, Nat.zero_le, storeAV, rowQ, ownInts, FT.of, FT.setf, elems, appAV_I, appI, srcI, ownI, anyI, sameR, appAV_P, appP, srcP, ownP, anyP, rowsAV, appAV, srcRows, srcFlat, reduceDIte, List.length_append, setAll, Option.isSome_some, List.drop_zero, Int.reduceToNat, List.set_cons_zero, List.set_cons_succ, Int.toNat_natCast, bne_self_eq_false]
            repeat (refine And.intro ?_ ?_; focus (first | exact hpre.2 | (simp only [List.length_drop]; omega) | exact hb1 | (intro hh2; exact ⟨hh2, by simp only [inR]; omega⟩) | exact hb2 | exact hb3 | exact hb4 | exact hb5 | exact ⟨by omega, by omega, by rw [List.length_take]; omega⟩ | exact ⟨by omega, by rw [hwp.1, partP_len]; omega⟩ | exact ⟨by omega, by rw [partP_len]; omega⟩ | first | exact ordP (by kernel_rfl) | with_reducible exact rfl | assumption | trivial | (simp only [inR]; omega) | omega | exact ⟨by omega, by omega⟩ | exact ⟨by omega, by omega, by omega⟩ | ((try simp only [decide_eq_true_eq, Bool.and_eq_true, ne_eq, decide_not, Bool.not_eq_true', Bool.not_eq_false', Bool.or_eq_false_iff, Bool.not_not, decide_eq_false_iff_not]); (try intro hh); (repeat' apply And.intro) <;> (first | omega | (simp only [inR]; omega) | assumption | exact hh.1 | exact hh.2 | exact hh.2.1 | exact hh.2.2 | exact hh.1.1 | exact hh.1.2 | (intro hq; exact ⟨hh, hq⟩) | (intro hq; exact ⟨hh.1, hq⟩) | (simp_all; done)))))
            refine ⟨k + 1, (by (try simp only [hnt, hnp]); rfl), ⟨by omega, by omega⟩, by dsimp only; omega⟩
        · try simp only [decide_eq_true_eq, decide_eq_false_iff_not, ne_eq, Decidable.not_not, Bool.not_eq_true', Bool.not_eq_false', Bool.or_eq_true, Bool.and_eq_true, Bool.or_eq_false_iff, Bool.and_eq_false_iff] at hc20
          refine W_exit ?_
          simp only [thenQ, blockQ, loopQ, reduceIte, Nat.reduceEqDiff]
          refine hK15 _ ?_
          clear hK15
          refine W_seq (fun K26 hK26 => ?_)
          refine W_region hT hG [] [3, 4, 5, 7, 13, 14] ?_
          rw [hnt]
          simp only [baseS, eq_self, implies_true, if_true, if_false, reduceIte, Nat.reduceBEq, Nat.reduceEqDiff, Nat.reduceLT, Nat.reduceAdd, reduceCtorEq, relC, callOK0, callOK1, fzE, c_spec_DrawWorstHeelR, tyInt, tdInt, tyBytes, tdBytes, tyInts, tdInts, tyHull, tdHull, tyBoxes, tdBoxes, c_laws_alive, c_impl_HeelOf, c_impl_BestOrder, c_impl_WorstHeel, c_spec_DrawWorstHeel, c_spec_WorstHeel, c_laws_loaded, decide_false, room, Nat.reduceLeDiff, Nat.zero_le, storeAV, rowQ, ownInts, FT.of, FT.setf, elems, appAV_I, appI, srcI, ownI, anyI, sameR, appAV_P, appP, srcP, ownP, anyP, rowsAV, appAV, srcRows, srcFlat, reduceDIte, List.length_append, setAll, Option.isSome_some, List.drop_zero, Int.reduceToNat, List.set_cons_zero, List.set_cons_succ, Int.toNat_natCast, bne_self_eq_false]
          repeat (refine And.intro ?_ ?_; focus (first | exact hpre.2 | (simp only [List.length_drop]; omega) | exact hb1 | (intro hh2; exact ⟨hh2, by simp only [inR]; omega⟩) | exact hb2 | exact hb3 | exact hb4 | exact hb5 | exact ⟨by omega, by omega, by rw [List.length_take]; omega⟩ | exact ⟨by omega, by rw [hwp.1, partP_len]; omega⟩ | exact ⟨by omega, by rw [partP_len]; omega⟩ | first | exact ordP (by kernel_rfl) | with_reducible exact rfl | assumption | trivial | (simp only [inR]; omega) | omega | exact ⟨by omega, by omega⟩ | exact ⟨by omega, by omega, by omega⟩ | ((try simp only [decide_eq_true_eq, Bool.and_eq_true, ne_eq, decide_not, Bool.not_eq_true', Bool.not_eq_false', Bool.or_eq_false_iff, Bool.not_not, decide_eq_false_iff_not]); (try intro hh); (repeat' apply And.intro) <;> (first | omega | (simp only [inR]; omega) | assumption | exact hh.1 | exact hh.2 | exact hh.2.1 | exact hh.2.2 | exact hh.1.1 | exact hh.1.2 | (intro hq; exact ⟨hh, hq⟩) | (intro hq; exact ⟨hh.1, hq⟩) | (simp_all; done)))))
          refine hK26 _ ?_
          clear hK26
          refine W_seq (fun K27 hK27 => ?_)
          refine W_region hT hG [] [2] ?_
          rw [hnt]
          simp only [baseS, eq_self, implies_true, if_true, if_false, reduceIte, Nat.reduceBEq, Nat.reduceEqDiff, Nat.reduceLT, Nat.reduceAdd, reduceCtorEq, relC, callOK0, callOK1, fzE, c_spec_DrawWorstHeelR, tyInt, tdInt, tyBytes, tdBytes, tyInts, tdInts, tyHull, tdHull, tyBoxes, tdBoxes, c_laws_alive, c_impl_HeelOf, c_impl_BestOrder, c_impl_WorstHeel, c_spec_DrawWorstHeel, c_spec_WorstHeel, c_laws_loaded, decide_false, room, Nat.reduceLeDiff, Nat.zero_le, storeAV, rowQ, ownInts, FT.of, FT.setf, elems, appAV_I, appI, srcI, ownI, anyI, sameR, appAV_P, appP, srcP, ownP, anyP, rowsAV, appAV, srcRows, srcFlat, reduceDIte, List.length_append, setAll, Option.isSome_some, List.drop_zero, Int.reduceToNat, List.set_cons_zero, List.set_cons_succ, Int.toNat_natCast, bne_self_eq_false]
          repeat (refine And.intro ?_ ?_; focus (first | exact hpre.2 | (simp only [List.length_drop]; omega) | exact hb1 | (intro hh2; exact ⟨hh2, by simp only [inR]; omega⟩) | exact hb2 | exact hb3 | exact hb4 | exact hb5 | exact ⟨by omega, by omega, by rw [List.length_take]; omega⟩ | exact ⟨by omega, by rw [hwp.1, partP_len]; omega⟩ | exact ⟨by omega, by rw [partP_len]; omega⟩ | first | exact ordP (by kernel_rfl) | with_reducible exact rfl | assumption | trivial | (simp only [inR]; omega) | omega | exact ⟨by omega, by omega⟩ | exact ⟨by omega, by omega, by omega⟩ | ((try simp only [decide_eq_true_eq, Bool.and_eq_true, ne_eq, decide_not, Bool.not_eq_true', Bool.not_eq_false', Bool.or_eq_false_iff, Bool.not_not, decide_eq_false_iff_not]); (try intro hh); (repeat' apply And.intro) <;> (first | omega | (simp only [inR]; omega) | assumption | exact hh.1 | exact hh.2 | exact hh.2.1 | exact hh.2.2 | exact hh.1.1 | exact hh.1.2 | (intro hq; exact ⟨hh, hq⟩) | (intro hq; exact ⟨hh.1, hq⟩) | (simp_all; done)))))
          refine hK27 _ ?_
          clear hK27
          refine W_ret ?_
          simp only [thenQ, blockQ, loopQ, retQ, reduceIte, Nat.reduceEqDiff]
          refine ret0 ?_ rfl rfl (.inr rfl) rfl
          simp only [show Try.f12.results.toList = [ResultVar.tmp 2] from rfl, resAV, resL, look, Nat.reduceEqDiff, reduceIte, tyHull, tdHull, applyUps, noH, isStr, List.length_cons, List.length_nil, Nat.reduceAdd, and_self]
          all_goals (
            first | rfl | (refine congrArg (fun x => some (AV.bool x)) ?_; first | (simp_all; done) | exact best_fin hbest) | skip)

end Go.Proofs.Ytpiaeckkjdcifaa
