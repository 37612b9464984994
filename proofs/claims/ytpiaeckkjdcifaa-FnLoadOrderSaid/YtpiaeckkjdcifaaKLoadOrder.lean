/- Walk over the law laws.FnLoadOrder. No condition. -/
import Derived.Test.YtpiaeckkjdcifaaDrawP
import Derived.Test.YtpiaeckkjdcifaaLoadOrd
import Derived.Test.YtpiaeckkjdcifaaPlaceO
import Derived.Test.YtpiaeckkjdcifaaAlive
import Derived.Test.YtpiaeckkjdcifaaTopU
namespace Go.Proofs.Ytpiaeckkjdcifaa
open Go
set_option linter.unusedVariables false
set_option linter.unusedSimpArgs false

theorem ordR_no {b r t : Int} {bs : List BoxD} {p : List Int} (h : planB b r t bs p = false) : ordR b r t bs p = [] := by rw [ordR, h]; rfl
theorem ord_at {b r t : Int} {bs : List BoxD} {p : List Int} (h : planB b r t bs p = true) {k : Nat} (hk : k < (ordR b r t bs p).length) : ((0 ≤ (ordR b r t bs p).getD k 0 ∧ (ordR b r t bs p).getD k 0 < p.length) ∧ p.getD ((ordR b r t bs p).getD k 0).toNat 0 ≠ 0) ∧ ∀ j, j < k → lexB t ((ordR b r t bs p).getD j 0) ((ordR b r t bs p).getD k 0) = true := by
  have ht := hv_t (planB_ok h).ship
  have e : ordR b r t bs p = catT t p t.toNat := by rw [ordR, if_pos h]
  rw [e] at hk ⊢
  have hpw := List.pairwise_iff_getElem.1 (catT_pw (show 0 < t by omega) p t.toNat)
  have hg : ∀ j (hj : j < (catT t p t.toNat).length), (catT t p t.toNat).getD j 0 = (catT t p t.toNat)[j] := fun j hj => by rw [List.getD_eq_getElem?_getD, List.getElem?_eq_getElem hj]; rfl
  have hm : (catT t p t.toNat).getD k 0 ∈ catT t p t.toNat := by rw [hg k hk]; exact List.getElem_mem hk
  obtain ⟨⟨q, hq, e2, hf⟩, _⟩ := (catT_mem (by omega) _).1 hm
  rw [← e2]
  refine ⟨⟨by omega, ?_⟩, fun j hj => ?_⟩
  · simp only [fullP, decide_eq_true_eq] at hf; simpa using hf
  · rw [e2, hg k hk, hg j (by omega)]; exact hpw j k (by omega) hk hj
theorem ord_load {b r t : Int} {bs : List BoxD} {p : List Int} (h : planB b r t bs p = true) : loadB b r t bs p (ordR b r t bs p) = true := by
  have hok := planB_ok h
  have ht := hv_t hok.ship
  have hat := fun k hk => ord_at (k := k) h hk
  have e : ordR b r t bs p = catT t p t.toNat := by rw [ordR, if_pos h]
  have hlen : (ordR b r t bs p).length = (fullS p).length := by rw [e, ord_eq (by omega), sortI_len]
  have hall : (List.range (ordR b r t bs p).length).all (ordB t p (ordR b r t bs p)) = true := by
    rw [List.all_eq_true]
    intro k hk
    rw [List.mem_range] at hk
    obtain ⟨⟨hr, hf⟩, hlt⟩ := hat k hk
    refine ord_of ⟨⟨by omega, hf⟩, fun hm => ?_⟩ ?_
    · obtain ⟨j, hj, _, e1⟩ := mem_take_getD hm
      have := hlt j hj
      rw [e1, lexB_iff] at this; omega
    · by_cases hz : 0 < (ordR b r t bs p).getD k 0 % t
      · right
        generalize hx : (ordR b r t bs p).getD k 0 = x at *
        have hfirm := hok.firm x.toNat (by omega) hf (by rw [show ((x.toNat : Nat) : Int) = x by omega]; exact hz)
        have hx1 : 1 ≤ x := by
          rcases Int.lt_or_le x 1 with h1 | h1
          · have : x = 0 := by omega
            rw [this] at hz; simp at hz
          · exact h1
        have hmod := emod_pred (s := x) (by omega) hz
        have hm : x - 1 ∈ ordR b r t bs p := by
          rw [e]
          refine (catT_mem (by omega) _).2 ⟨⟨x.toNat - 1, by omega, by omega, by simp only [fullP, decide_eq_true_eq]; exact hfirm⟩, ?_⟩
          have := Int.emod_lt_of_pos (x - 1) (show 0 < t by omega)
          omega
        obtain ⟨j, hj, e1⟩ := mem_getD hm
        have hjk : j < k := by
          rcases Nat.lt_trichotomy j k with h1 | h1 | h1
          · exact h1
          · subst h1; omega
          · have := (hat j hj).2 k h1
            rw [hx, e1, lexB_iff] at this; omega
        have : (ordR b r t bs p).getD j 0 ∈ (ordR b r t bs p).take k := by
          rw [List.mem_iff_getElem?]
          exact ⟨j, by rw [List.getElem?_take, if_pos hjk, List.getElem?_eq_getElem hj, List.getD_eq_getElem?_getD, List.getElem?_eq_getElem hj]; rfl⟩
        rw [← e1]; exact this
      · exact .inl hz
  simp only [loadB, h, hall, Bool.true_and, Bool.and_true, decide_eq_true_eq]
  omega
theorem ord_tier {b r t : Int} {bs : List BoxD} {p : List Int} (h : planB b r t bs p = true) {k : Int} (h1 : 1 ≤ k) (hk : k < (ordR b r t bs p).length) : plT b r t ((ordR b r t bs p).getD (k - 1).toNat 0) ≤ plT b r t ((ordR b r t bs p).getD k.toNat 0) := by
  have hok := planB_ok h
  have hlen := hok.len
  obtain ⟨⟨hr, _⟩, hlt⟩ := ord_at (k := k.toNat) h (by omega)
  obtain ⟨⟨hr2, _⟩, _⟩ := ord_at (k := (k - 1).toNat) h (by omega)
  have h3 := hlt (k - 1).toNat (by omega)
  rw [lexB_iff] at h3
  have e1 := (pl3_yes ⟨hok.ship, show 0 ≤ (ordR b r t bs p).getD k.toNat 0 ∧ (ordR b r t bs p).getD k.toNat 0 ≤ b * r * t - 1 by omega⟩).2.2
  have e2 := (pl3_yes ⟨hok.ship, show 0 ≤ (ordR b r t bs p).getD (k - 1).toNat 0 ∧ (ordR b r t bs p).getD (k - 1).toNat 0 ≤ b * r * t - 1 by omega⟩).2.2
  rw [e1, e2]
  omega

def c_laws_FnLoadOrder : Ctr where
  modes := [.v (.r .u8)]
  al := false
  run := fun xs os => match xs, os with
    | [.rs .u8 b], [] => some ⟨b.length ≤ 9223372036854775807 ∧ ∀ x ∈ b, 0 ≤ x ∧ x ≤ 255, .bool true, [], []⟩
    | _, _ => none
theorem m_laws_FnLoadOrder : Meets Try.prog 7 c_laws_FnLoadOrder := by
  refine meets_of (T := tyT) tyOK Try.func7 (by rfl) rfl (by decide) ?_
  intro args owns R hrun hpre
  simp only [c_laws_FnLoadOrder] at hrun
  split at hrun
  case h_2 => cases hrun
  rename_i b
  cases hrun
  try dsimp only at hpre
  refine ⟨_, rfl, fun E hP hnt hnp => ?_⟩
  replace hnt : E.nt = 80 := hnt
  replace hnp : E.np = 1 := hnp
  have hT : ∀ t d, tyT t = some d → TyOK E.P t d := hP ▸ tyOK
  have hG : ∀ f C, Γof [(15, c_laws_sameInts), (17, c_laws_alive), (32, c_spec_LoadOrder), (35, c_impl_LoadOrder), (38, c_spec_DrawLoadOrder), (39, c_spec_PlanValid), (40, c_impl_PlaceOf), (41, c_impl_LoadOk)] f = some C → Meets E.P f C := hΓof (by rw [hP]; exact ⟨m_laws_sameInts, m_laws_alive, m_spec_LoadOrder, m_impl_LoadOrder, m_spec_DrawLoadOrder, m_spec_PlanValid, m_impl_PlaceOf, m_impl_LoadOk, trivial⟩)
  try simp only [show Try.f7.ntmps = 80 from rfl]
  refine W_seq (fun K1 hK1 => ?_)
  refine W_region hT hG [] [0] ?_
  rw [hnt]
  simp only [baseS, eq_self, implies_true, if_true, if_false, reduceIte, Nat.reduceBEq, Nat.reduceEqDiff, Nat.reduceLT, Nat.reduceAdd, reduceCtorEq, relC, callOK0, callOK1, fzE, c_spec_DrawLoadOrderR, tyInt, tdInt, tyBytes, tdBytes, tyInts, tdInts, tyHull, tdHull, tyBoxes, tdBoxes, c_laws_sameInts, c_laws_alive, c_spec_LoadOrder, c_impl_LoadOrder, c_spec_DrawLoadOrder, c_spec_PlanValid, c_impl_PlaceOf, c_impl_LoadOk, decide_false, room, Nat.reduceLeDiff, Nat.zero_le, storeAV, rowQ, ownInts, FT.of, FT.setf, elems, appAV_I, appI, srcI, ownI, anyI, sameR, appAV_P, appP, srcP, ownP, anyP, rowsAV, appAV, srcRows, srcFlat, reduceDIte, List.length_append, setAll, Option.isSome_some, List.drop_zero, Int.reduceToNat, List.set_cons_zero, List.set_cons_succ]
  repeat (refine And.intro ?_ ?_; focus (first | exact hpre.2 | (simp only [List.length_drop]; omega) | exact hb1 | exact hb3 | exact hb4 | first | exact ordP (by kernel_rfl) | with_reducible exact rfl | assumption | trivial | (simp only [inR]; omega) | omega | exact ⟨by omega, by omega⟩ | exact ⟨by omega, by omega, by omega⟩ | ((try simp only [decide_eq_true_eq, Bool.and_eq_true, ne_eq, decide_not, Bool.not_eq_true', Bool.not_eq_false', Bool.or_eq_false_iff, Bool.not_not, decide_eq_false_iff_not]); (try intro hh); (repeat' apply And.intro) <;> (first | omega | (simp only [inR]; omega) | assumption | exact hh.1 | exact hh.2 | exact hh.2.1 | exact hh.2.2 | exact hh.1.1 | exact hh.1.2 | (intro hq; exact ⟨hh, hq⟩) | (intro hq; exact ⟨hh.1, hq⟩) | (simp_all; done)))))
  refine hK1 _ ?_
  clear hK1
  refine W_seq (fun K2 hK2 => ?_)
  refine W_seq (fun K3 hK3 => ?_)
  refine W_region hT hG [] [0, 16] ?_
  rw [hnt]
  simp only [baseS, eq_self, implies_true, if_true, if_false, reduceIte, Nat.reduceBEq, Nat.reduceEqDiff, Nat.reduceLT, Nat.reduceAdd, reduceCtorEq, relC, callOK0, callOK1, fzE, c_spec_DrawLoadOrderR, tyInt, tdInt, tyBytes, tdBytes, tyInts, tdInts, tyHull, tdHull, tyBoxes, tdBoxes, c_laws_sameInts, c_laws_alive, c_spec_LoadOrder, c_impl_LoadOrder, c_spec_DrawLoadOrder, c_spec_PlanValid, c_impl_PlaceOf, c_impl_LoadOk, decide_false, room, Nat.reduceLeDiff, Nat.zero_le, storeAV, rowQ, ownInts, FT.of, FT.setf, elems, appAV_I, appI, srcI, ownI, anyI, sameR, appAV_P, appP, srcP, ownP, anyP, rowsAV, appAV, srcRows, srcFlat, reduceDIte, List.length_append, setAll, Option.isSome_some, List.drop_zero, Int.reduceToNat, List.set_cons_zero, List.set_cons_succ]
  repeat (refine And.intro ?_ ?_; focus (first | exact hpre.2 | (simp only [List.length_drop]; omega) | exact hb1 | exact hb3 | exact hb4 | first | exact ordP (by kernel_rfl) | with_reducible exact rfl | assumption | trivial | (simp only [inR]; omega) | omega | exact ⟨by omega, by omega⟩ | exact ⟨by omega, by omega, by omega⟩ | ((try simp only [decide_eq_true_eq, Bool.and_eq_true, ne_eq, decide_not, Bool.not_eq_true', Bool.not_eq_false', Bool.or_eq_false_iff, Bool.not_not, decide_eq_false_iff_not]); (try intro hh); (repeat' apply And.intro) <;> (first | omega | (simp only [inR]; omega) | assumption | exact hh.1 | exact hh.2 | exact hh.2.1 | exact hh.2.2 | exact hh.1.1 | exact hh.1.2 | (intro hq; exact ⟨hh, hq⟩) | (intro hq; exact ⟨hh.1, hq⟩) | (simp_all; done)))))
  refine hK3 _ ?_
  clear hK3
  refine W_cond (b := _) rfl (fun hc4 => ?_) (fun hc4 => ?_)
  · try simp only [decide_eq_true_eq, decide_eq_false_iff_not, ne_eq, Decidable.not_not, Bool.not_eq_true', Bool.not_eq_false', Bool.or_eq_true, Bool.and_eq_true, Bool.or_eq_false_iff, Bool.and_eq_false_iff] at hc4
    refine W_seq (fun K5 hK5 => ?_)
    refine W_region hT hG [] [2] ?_
    rw [hnt]
    simp only [baseS, eq_self, implies_true, if_true, if_false, reduceIte, Nat.reduceBEq, Nat.reduceEqDiff, Nat.reduceLT, Nat.reduceAdd, reduceCtorEq, relC, callOK0, callOK1, fzE, c_spec_DrawLoadOrderR, tyInt, tdInt, tyBytes, tdBytes, tyInts, tdInts, tyHull, tdHull, tyBoxes, tdBoxes, c_laws_sameInts, c_laws_alive, c_spec_LoadOrder, c_impl_LoadOrder, c_spec_DrawLoadOrder, c_spec_PlanValid, c_impl_PlaceOf, c_impl_LoadOk, decide_false, room, Nat.reduceLeDiff, Nat.zero_le, storeAV, rowQ, ownInts, FT.of, FT.setf, elems, appAV_I, appI, srcI, ownI, anyI, sameR, appAV_P, appP, srcP, ownP, anyP, rowsAV, appAV, srcRows, srcFlat, reduceDIte, List.length_append, setAll, Option.isSome_some, List.drop_zero, Int.reduceToNat, List.set_cons_zero, List.set_cons_succ]
    repeat (refine And.intro ?_ ?_; focus (first | exact hpre.2 | (simp only [List.length_drop]; omega) | exact hb1 | exact hb3 | exact hb4 | first | exact ordP (by kernel_rfl) | with_reducible exact rfl | assumption | trivial | (simp only [inR]; omega) | omega | exact ⟨by omega, by omega⟩ | exact ⟨by omega, by omega, by omega⟩ | ((try simp only [decide_eq_true_eq, Bool.and_eq_true, ne_eq, decide_not, Bool.not_eq_true', Bool.not_eq_false', Bool.or_eq_false_iff, Bool.not_not, decide_eq_false_iff_not]); (try intro hh); (repeat' apply And.intro) <;> (first | omega | (simp only [inR]; omega) | assumption | exact hh.1 | exact hh.2 | exact hh.2.1 | exact hh.2.2 | exact hh.1.1 | exact hh.1.2 | (intro hq; exact ⟨hh, hq⟩) | (intro hq; exact ⟨hh.1, hq⟩) | (simp_all; done)))))
    refine hK5 _ ?_
    clear hK5
    refine W_ret ?_
    simp only [thenQ, blockQ, loopQ, retQ, reduceIte, Nat.reduceEqDiff]
    refine ret0 ?_ rfl rfl (.inr rfl) rfl
    simp only [show Try.f7.results.toList = [ResultVar.tmp 2] from rfl, resAV, resL, look, Nat.reduceEqDiff, reduceIte, tyHull, tdHull, applyUps, noH, isStr, List.length_cons, List.length_nil, Nat.reduceAdd, and_self]
    all_goals (
      first | rfl | (refine congrArg (fun x => some (AV.bool x)) ?_; first | (rw [hno]; rfl) | exact ord_load (by assumption) | (simp_all; done)) | skip)
  · try simp only [decide_eq_true_eq, decide_eq_false_iff_not, ne_eq, Decidable.not_not, Bool.not_eq_true', Bool.not_eq_false', Bool.or_eq_true, Bool.and_eq_true, Bool.or_eq_false_iff, Bool.and_eq_false_iff] at hc4
    refine W_skip ?_
    simp only [thenQ, blockQ, loopQ, reduceIte, Nat.reduceEqDiff]
    refine hK2 _ ?_
    clear hK2
    refine W_seq (fun K6 hK6 => ?_)
    refine W_region hT hG [] [3, 4, 5] ?_
    rw [hnt]
    simp only [baseS, eq_self, implies_true, if_true, if_false, reduceIte, Nat.reduceBEq, Nat.reduceEqDiff, Nat.reduceLT, Nat.reduceAdd, reduceCtorEq, relC, callOK0, callOK1, fzE, c_spec_DrawLoadOrderR, tyInt, tdInt, tyBytes, tdBytes, tyInts, tdInts, tyHull, tdHull, tyBoxes, tdBoxes, c_laws_sameInts, c_laws_alive, c_spec_LoadOrder, c_impl_LoadOrder, c_spec_DrawLoadOrder, c_spec_PlanValid, c_impl_PlaceOf, c_impl_LoadOk, decide_false, room, Nat.reduceLeDiff, Nat.zero_le, storeAV, rowQ, ownInts, FT.of, FT.setf, elems, appAV_I, appI, srcI, ownI, anyI, sameR, appAV_P, appP, srcP, ownP, anyP, rowsAV, appAV, srcRows, srcFlat, reduceDIte, List.length_append, setAll, Option.isSome_some, List.drop_zero, Int.reduceToNat, List.set_cons_zero, List.set_cons_succ]
    repeat (refine And.intro ?_ ?_; focus (first | exact hpre.2 | (simp only [List.length_drop]; omega) | exact hb1 | exact hb3 | exact hb4 | first | exact ordP (by kernel_rfl) | with_reducible exact rfl | assumption | trivial | (simp only [inR]; omega) | omega | exact ⟨by omega, by omega⟩ | exact ⟨by omega, by omega, by omega⟩ | ((try simp only [decide_eq_true_eq, Bool.and_eq_true, ne_eq, decide_not, Bool.not_eq_true', Bool.not_eq_false', Bool.or_eq_false_iff, Bool.not_not, decide_eq_false_iff_not]); (try intro hh); (repeat' apply And.intro) <;> (first | omega | (simp only [inR]; omega) | assumption | exact hh.1 | exact hh.2 | exact hh.2.1 | exact hh.2.2 | exact hh.1.1 | exact hh.1.2 | (intro hq; exact ⟨hh, hq⟩) | (intro hq; exact ⟨hh.1, hq⟩) | (simp_all; done)))))
    rintro _ ⟨y1, y2, y3, bs, pl, rfl, hbl, hpl⟩
    have hll := @ordR_len y1 y2 y3 bs pl
    have hb1 : bs.length ≤ 9223372036854775807 ∧ pl.length ≤ 9223372036854775807 := ⟨by omega, by omega⟩
    have hb4 : (bs.length ≤ 9223372036854775807 ∧ pl.length ≤ 9223372036854775807) ∧ (ordR y1 y2 y3 bs pl).length ≤ 9223372036854775807 := ⟨hb1, by omega⟩
    have hb3 : bs.length ≤ 9223372036854775807 ∧ pl.length ≤ 9223372036854775807 ∧ (ordR y1 y2 y3 bs pl).length ≤ 9223372036854775807 := ⟨by omega, by omega, by omega⟩
    simp only [baseS, eq_self, implies_true, if_true, if_false, reduceIte, Nat.reduceBEq, Nat.reduceEqDiff, Nat.reduceLT, Nat.reduceAdd, reduceCtorEq, relC, callOK0, callOK1, fzE, c_spec_DrawLoadOrderR, tyInt, tdInt, tyBytes, tdBytes, tyInts, tdInts, tyHull, tdHull, tyBoxes, tdBoxes, c_laws_sameInts, c_laws_alive, c_spec_LoadOrder, c_impl_LoadOrder, c_spec_DrawLoadOrder, c_spec_PlanValid, c_impl_PlaceOf, c_impl_LoadOk, decide_false, room, Nat.reduceLeDiff, Nat.zero_le, storeAV, rowQ, ownInts, FT.of, FT.setf, elems, appAV_I, appI, srcI, ownI, anyI, sameR, appAV_P, appP, srcP, ownP, anyP, rowsAV, appAV, srcRows, srcFlat, reduceDIte, List.length_append, setAll, Option.isSome_some, List.drop_zero, Int.reduceToNat, List.set_cons_zero, List.set_cons_succ]
    repeat (refine And.intro ?_ ?_; focus (first | exact hpre.2 | (simp only [List.length_drop]; omega) | exact hb1 | exact hb3 | exact hb4 | first | exact ordP (by kernel_rfl) | with_reducible exact rfl | assumption | trivial | (simp only [inR]; omega) | omega | exact ⟨by omega, by omega⟩ | exact ⟨by omega, by omega, by omega⟩ | ((try simp only [decide_eq_true_eq, Bool.and_eq_true, ne_eq, decide_not, Bool.not_eq_true', Bool.not_eq_false', Bool.or_eq_false_iff, Bool.not_not, decide_eq_false_iff_not]); (try intro hh); (repeat' apply And.intro) <;> (first | omega | (simp only [inR]; omega) | assumption | exact hh.1 | exact hh.2 | exact hh.2.1 | exact hh.2.2 | exact hh.1.1 | exact hh.1.2 | (intro hq; exact ⟨hh, hq⟩) | (intro hq; exact ⟨hh.1, hq⟩) | (simp_all; done)))))
    refine hK6 _ ?_
    clear hK6
    refine W_seq (fun K7 hK7 => ?_)
    refine W_region hT hG [] [3, 4, 5, 6] ?_
    rw [hnt]
    simp only [baseS, eq_self, implies_true, if_true, if_false, reduceIte, Nat.reduceBEq, Nat.reduceEqDiff, Nat.reduceLT, Nat.reduceAdd, reduceCtorEq, relC, callOK0, callOK1, fzE, c_spec_DrawLoadOrderR, tyInt, tdInt, tyBytes, tdBytes, tyInts, tdInts, tyHull, tdHull, tyBoxes, tdBoxes, c_laws_sameInts, c_laws_alive, c_spec_LoadOrder, c_impl_LoadOrder, c_spec_DrawLoadOrder, c_spec_PlanValid, c_impl_PlaceOf, c_impl_LoadOk, decide_false, room, Nat.reduceLeDiff, Nat.zero_le, storeAV, rowQ, ownInts, FT.of, FT.setf, elems, appAV_I, appI, srcI, ownI, anyI, sameR, appAV_P, appP, srcP, ownP, anyP, rowsAV, appAV, srcRows, srcFlat, reduceDIte, List.length_append, setAll, Option.isSome_some, List.drop_zero, Int.reduceToNat, List.set_cons_zero, List.set_cons_succ]
    repeat (refine And.intro ?_ ?_; focus (first | exact hpre.2 | (simp only [List.length_drop]; omega) | exact hb1 | exact hb3 | exact hb4 | first | exact ordP (by kernel_rfl) | with_reducible exact rfl | assumption | trivial | (simp only [inR]; omega) | omega | exact ⟨by omega, by omega⟩ | exact ⟨by omega, by omega, by omega⟩ | ((try simp only [decide_eq_true_eq, Bool.and_eq_true, ne_eq, decide_not, Bool.not_eq_true', Bool.not_eq_false', Bool.or_eq_false_iff, Bool.not_not, decide_eq_false_iff_not]); (try intro hh); (repeat' apply And.intro) <;> (first | omega | (simp only [inR]; omega) | assumption | exact hh.1 | exact hh.2 | exact hh.2.1 | exact hh.2.2 | exact hh.1.1 | exact hh.1.2 | (intro hq; exact ⟨hh, hq⟩) | (intro hq; exact ⟨hh.1, hq⟩) | (simp_all; done)))))
    refine hK7 _ ?_
    clear hK7
    refine W_seq (fun K8 hK8 => ?_)
    refine W_seq (fun K9 hK9 => ?_)
    refine W_region hT hG [] [3, 4, 5, 6, 33] ?_
    rw [hnt]
    simp only [baseS, eq_self, implies_true, if_true, if_false, reduceIte, Nat.reduceBEq, Nat.reduceEqDiff, Nat.reduceLT, Nat.reduceAdd, reduceCtorEq, relC, callOK0, callOK1, fzE, c_spec_DrawLoadOrderR, tyInt, tdInt, tyBytes, tdBytes, tyInts, tdInts, tyHull, tdHull, tyBoxes, tdBoxes, c_laws_sameInts, c_laws_alive, c_spec_LoadOrder, c_impl_LoadOrder, c_spec_DrawLoadOrder, c_spec_PlanValid, c_impl_PlaceOf, c_impl_LoadOk, decide_false, room, Nat.reduceLeDiff, Nat.zero_le, storeAV, rowQ, ownInts, FT.of, FT.setf, elems, appAV_I, appI, srcI, ownI, anyI, sameR, appAV_P, appP, srcP, ownP, anyP, rowsAV, appAV, srcRows, srcFlat, reduceDIte, List.length_append, setAll, Option.isSome_some, List.drop_zero, Int.reduceToNat, List.set_cons_zero, List.set_cons_succ]
    repeat (refine And.intro ?_ ?_; focus (first | exact hpre.2 | (simp only [List.length_drop]; omega) | exact hb1 | exact hb3 | exact hb4 | first | exact ordP (by kernel_rfl) | with_reducible exact rfl | assumption | trivial | (simp only [inR]; omega) | omega | exact ⟨by omega, by omega⟩ | exact ⟨by omega, by omega, by omega⟩ | ((try simp only [decide_eq_true_eq, Bool.and_eq_true, ne_eq, decide_not, Bool.not_eq_true', Bool.not_eq_false', Bool.or_eq_false_iff, Bool.not_not, decide_eq_false_iff_not]); (try intro hh); (repeat' apply And.intro) <;> (first | omega | (simp only [inR]; omega) | assumption | exact hh.1 | exact hh.2 | exact hh.2.1 | exact hh.2.2 | exact hh.1.1 | exact hh.1.2 | (intro hq; exact ⟨hh, hq⟩) | (intro hq; exact ⟨hh.1, hq⟩) | (simp_all; done)))))
    refine hK9 _ ?_
    clear hK9
    refine W_cond (b := _) rfl (fun hc10 => ?_) (fun hc10 => ?_)
    · try simp only [decide_eq_true_eq, decide_eq_false_iff_not, ne_eq, Decidable.not_not, Bool.not_eq_true', Bool.not_eq_false', Bool.or_eq_true, Bool.and_eq_true, Bool.or_eq_false_iff, Bool.and_eq_false_iff] at hc10
      first | exact absurd rfl hc10 | (simp at hc10; done) | exact absurd trivial hc10
    · try simp only [decide_eq_true_eq, decide_eq_false_iff_not, ne_eq, Decidable.not_not, Bool.not_eq_true', Bool.not_eq_false', Bool.or_eq_true, Bool.and_eq_true, Bool.or_eq_false_iff, Bool.and_eq_false_iff] at hc10
      refine W_skip ?_
      simp only [thenQ, blockQ, loopQ, reduceIte, Nat.reduceEqDiff]
      refine hK8 _ ?_
      clear hK8
      refine W_seq (fun K11 hK11 => ?_)
      refine W_seq (fun K12 hK12 => ?_)
      refine W_region hT hG [] [3, 4, 5, 6, 38] ?_
      rw [hnt]
      simp only [baseS, eq_self, implies_true, if_true, if_false, reduceIte, Nat.reduceBEq, Nat.reduceEqDiff, Nat.reduceLT, Nat.reduceAdd, reduceCtorEq, relC, callOK0, callOK1, fzE, c_spec_DrawLoadOrderR, tyInt, tdInt, tyBytes, tdBytes, tyInts, tdInts, tyHull, tdHull, tyBoxes, tdBoxes, c_laws_sameInts, c_laws_alive, c_spec_LoadOrder, c_impl_LoadOrder, c_spec_DrawLoadOrder, c_spec_PlanValid, c_impl_PlaceOf, c_impl_LoadOk, decide_false, room, Nat.reduceLeDiff, Nat.zero_le, storeAV, rowQ, ownInts, FT.of, FT.setf, elems, appAV_I, appI, srcI, ownI, anyI, sameR, appAV_P, appP, srcP, ownP, anyP, rowsAV, appAV, srcRows, srcFlat, reduceDIte, List.length_append, setAll, Option.isSome_some, List.drop_zero, Int.reduceToNat, List.set_cons_zero, List.set_cons_succ]
      repeat (refine And.intro ?_ ?_; focus (first | exact hpre.2 | (simp only [List.length_drop]; omega) | exact hb1 | exact hb3 | exact hb4 | first | exact ordP (by kernel_rfl) | with_reducible exact rfl | assumption | trivial | (simp only [inR]; omega) | omega | exact ⟨by omega, by omega⟩ | exact ⟨by omega, by omega, by omega⟩ | ((try simp only [decide_eq_true_eq, Bool.and_eq_true, ne_eq, decide_not, Bool.not_eq_true', Bool.not_eq_false', Bool.or_eq_false_iff, Bool.not_not, decide_eq_false_iff_not]); (try intro hh); (repeat' apply And.intro) <;> (first | omega | (simp only [inR]; omega) | assumption | exact hh.1 | exact hh.2 | exact hh.2.1 | exact hh.2.2 | exact hh.1.1 | exact hh.1.2 | (intro hq; exact ⟨hh, hq⟩) | (intro hq; exact ⟨hh.1, hq⟩) | (simp_all; done)))))
      refine hK12 _ ?_
      clear hK12
      refine W_cond (b := _) rfl (fun hc13 => ?_) (fun hc13 => ?_)
      · try simp only [decide_eq_true_eq, decide_eq_false_iff_not, ne_eq, Decidable.not_not, Bool.not_eq_true', Bool.not_eq_false', Bool.or_eq_true, Bool.and_eq_true, Bool.or_eq_false_iff, Bool.and_eq_false_iff] at hc13
        refine W_seq (fun K14 hK14 => ?_)
        refine W_region hT hG [] [2] ?_
        rw [hnt]
        have hno := ordR_no hc13
        simp only [baseS, eq_self, implies_true, if_true, if_false, reduceIte, Nat.reduceBEq, Nat.reduceEqDiff, Nat.reduceLT, Nat.reduceAdd, reduceCtorEq, relC, callOK0, callOK1, fzE, c_spec_DrawLoadOrderR, tyInt, tdInt, tyBytes, tdBytes, tyInts, tdInts, tyHull, tdHull, tyBoxes, tdBoxes, c_laws_sameInts, c_laws_alive, c_spec_LoadOrder, c_impl_LoadOrder, c_spec_DrawLoadOrder, c_spec_PlanValid, c_impl_PlaceOf, c_impl_LoadOk, decide_false, room, Nat.reduceLeDiff, Nat.zero_le, storeAV, rowQ, ownInts, FT.of, FT.setf, elems, appAV_I, appI, srcI, ownI, anyI, sameR, appAV_P, appP, srcP, ownP, anyP, rowsAV, appAV, srcRows, srcFlat, reduceDIte, List.length_append, setAll, Option.isSome_some, List.drop_zero, Int.reduceToNat, List.set_cons_zero, List.set_cons_succ]
        repeat (refine And.intro ?_ ?_; focus (first | exact hpre.2 | (simp only [List.length_drop]; omega) | exact hb1 | exact hb3 | exact hb4 | first | exact ordP (by kernel_rfl) | with_reducible exact rfl | assumption | trivial | (simp only [inR]; omega) | omega | exact ⟨by omega, by omega⟩ | exact ⟨by omega, by omega, by omega⟩ | ((try simp only [decide_eq_true_eq, Bool.and_eq_true, ne_eq, decide_not, Bool.not_eq_true', Bool.not_eq_false', Bool.or_eq_false_iff, Bool.not_not, decide_eq_false_iff_not]); (try intro hh); (repeat' apply And.intro) <;> (first | omega | (simp only [inR]; omega) | assumption | exact hh.1 | exact hh.2 | exact hh.2.1 | exact hh.2.2 | exact hh.1.1 | exact hh.1.2 | (intro hq; exact ⟨hh, hq⟩) | (intro hq; exact ⟨hh.1, hq⟩) | (simp_all; done)))))
        refine hK14 _ ?_
        clear hK14
        refine W_ret ?_
        simp only [thenQ, blockQ, loopQ, retQ, reduceIte, Nat.reduceEqDiff]
        refine ret0 ?_ rfl rfl (.inr rfl) rfl
        simp only [show Try.f7.results.toList = [ResultVar.tmp 2] from rfl, resAV, resL, look, Nat.reduceEqDiff, reduceIte, tyHull, tdHull, applyUps, noH, isStr, List.length_cons, List.length_nil, Nat.reduceAdd, and_self]
        all_goals (
          first | rfl | (refine congrArg (fun x => some (AV.bool x)) ?_; first | (rw [hno]; rfl) | exact ord_load (by assumption) | (simp_all; done)) | skip)
      · try simp only [decide_eq_true_eq, decide_eq_false_iff_not, ne_eq, Decidable.not_not, Bool.not_eq_true', Bool.not_eq_false', Bool.or_eq_true, Bool.and_eq_true, Bool.or_eq_false_iff, Bool.and_eq_false_iff] at hc13
        refine W_skip ?_
        simp only [thenQ, blockQ, loopQ, reduceIte, Nat.reduceEqDiff]
        refine hK11 _ ?_
        clear hK11
        refine W_seq (fun K15 hK15 => ?_)
        refine W_seq (fun K16 hK16 => ?_)
        refine W_region hT hG [] [3, 4, 5, 6, 7] ?_
        rw [hnt]
        simp only [baseS, eq_self, implies_true, if_true, if_false, reduceIte, Nat.reduceBEq, Nat.reduceEqDiff, Nat.reduceLT, Nat.reduceAdd, reduceCtorEq, relC, callOK0, callOK1, fzE, c_spec_DrawLoadOrderR, tyInt, tdInt, tyBytes, tdBytes, tyInts, tdInts, tyHull, tdHull, tyBoxes, tdBoxes, c_laws_sameInts, c_laws_alive, c_spec_LoadOrder, c_impl_LoadOrder, c_spec_DrawLoadOrder, c_spec_PlanValid, c_impl_PlaceOf, c_impl_LoadOk, decide_false, room, Nat.reduceLeDiff, Nat.zero_le, storeAV, rowQ, ownInts, FT.of, FT.setf, elems, appAV_I, appI, srcI, ownI, anyI, sameR, appAV_P, appP, srcP, ownP, anyP, rowsAV, appAV, srcRows, srcFlat, reduceDIte, List.length_append, setAll, Option.isSome_some, List.drop_zero, Int.reduceToNat, List.set_cons_zero, List.set_cons_succ]
        repeat (refine And.intro ?_ ?_; focus (first | exact hpre.2 | (simp only [List.length_drop]; omega) | exact hb1 | exact hb3 | exact hb4 | first | exact ordP (by kernel_rfl) | with_reducible exact rfl | assumption | trivial | (simp only [inR]; omega) | omega | exact ⟨by omega, by omega⟩ | exact ⟨by omega, by omega, by omega⟩ | ((try simp only [decide_eq_true_eq, Bool.and_eq_true, ne_eq, decide_not, Bool.not_eq_true', Bool.not_eq_false', Bool.or_eq_false_iff, Bool.not_not, decide_eq_false_iff_not]); (try intro hh); (repeat' apply And.intro) <;> (first | omega | (simp only [inR]; omega) | assumption | exact hh.1 | exact hh.2 | exact hh.2.1 | exact hh.2.2 | exact hh.1.1 | exact hh.1.2 | (intro hq; exact ⟨hh, hq⟩) | (intro hq; exact ⟨hh.1, hq⟩) | (simp_all; done)))))
        refine hK16 _ ?_
        clear hK16
        refine W_block ?_
        refine W_loop (α := Int) [(3, .var), (4, .as), (5, .as), (6, .fz .i64), (7, .as)] (fun k => ⟨[(3, .op 3 0), (4, .rs .box bs), (5, .rs .i64 pl), (6, .rs .i64 (ordR y1 y2 y3 bs pl)), (7, .int k)], [(3, some (.var [.int y1, .int y2, .int y3]))], 80⟩) (fun k => 1 ≤ k ∧ k ≤ 1000) (fun k => (1000 - k).toNat) 1 ?_ ?_ ?_
        · (try simp only [hnt, hnp]); rfl
        · exact ⟨by omega, by omega⟩
        rintro k ⟨hk0, hk1⟩
        refine W_seq (fun K18 hK18 => ?_)
        refine W_seq (fun K19 hK19 => ?_)
        refine W_region hT hG [] [3, 4, 5, 6, 7, 48] ?_
        rw [hnt]
        simp only [baseS, eq_self, implies_true, if_true, if_false, reduceIte, Nat.reduceBEq, Nat.reduceEqDiff, Nat.reduceLT, Nat.reduceAdd, reduceCtorEq, relC, callOK0, callOK1, fzE, c_spec_DrawLoadOrderR, tyInt, tdInt, tyBytes, tdBytes, tyInts, tdInts, tyHull, tdHull, tyBoxes, tdBoxes, c_laws_sameInts, c_laws_alive, c_spec_LoadOrder, c_impl_LoadOrder, c_spec_DrawLoadOrder, c_spec_PlanValid, c_impl_PlaceOf, c_impl_LoadOk, decide_false, room, Nat.reduceLeDiff, Nat.zero_le, storeAV, rowQ, ownInts, FT.of, FT.setf, elems, appAV_I, appI, srcI, ownI, anyI, sameR, appAV_P, appP, srcP, ownP, anyP, rowsAV, appAV, srcRows, srcFlat, reduceDIte, List.length_append, setAll, Option.isSome_some, List.drop_zero, Int.reduceToNat, List.set_cons_zero, List.set_cons_succ]
        repeat (refine And.intro ?_ ?_; focus (first | exact hpre.2 | (simp only [List.length_drop]; omega) | exact hb1 | exact hb3 | exact hb4 | first | exact ordP (by kernel_rfl) | with_reducible exact rfl | assumption | trivial | (simp only [inR]; omega) | omega | exact ⟨by omega, by omega⟩ | exact ⟨by omega, by omega, by omega⟩ | ((try simp only [decide_eq_true_eq, Bool.and_eq_true, ne_eq, decide_not, Bool.not_eq_true', Bool.not_eq_false', Bool.or_eq_false_iff, Bool.not_not, decide_eq_false_iff_not]); (try intro hh); (repeat' apply And.intro) <;> (first | omega | (simp only [inR]; omega) | assumption | exact hh.1 | exact hh.2 | exact hh.2.1 | exact hh.2.2 | exact hh.1.1 | exact hh.1.2 | (intro hq; exact ⟨hh, hq⟩) | (intro hq; exact ⟨hh.1, hq⟩) | (simp_all; done)))))
        refine hK19 _ ?_
        clear hK19
        refine W_cond (b := _) rfl (fun hc20 => ?_) (fun hc20 => ?_)
        · try simp only [decide_eq_true_eq, decide_eq_false_iff_not, ne_eq, Decidable.not_not, Bool.not_eq_true', Bool.not_eq_false', Bool.or_eq_true, Bool.and_eq_true, Bool.or_eq_false_iff, Bool.and_eq_false_iff] at hc20
          refine W_skip ?_
          simp only [thenQ, blockQ, loopQ, reduceIte, Nat.reduceEqDiff]
          refine hK18 _ ?_
          clear hK18
          refine W_seq (fun K21 hK21 => ?_)
          refine W_block ?_
          refine W_seq (fun K22 hK22 => ?_)
          refine W_region_draw hT hG (by rw [hP]; exact draws_ok) [] [3, 4, 5, 6, 7, 10] ?_
          rw [hnt]
          simp only [baseS, eq_self, implies_true, if_true, if_false, reduceIte, Nat.reduceBEq, Nat.reduceEqDiff, Nat.reduceLT, Nat.reduceAdd, reduceCtorEq, relC, callOK0, callOK1, fzE, c_spec_DrawLoadOrderR, tyInt, tdInt, tyBytes, tdBytes, tyInts, tdInts, tyHull, tdHull, tyBoxes, tdBoxes, c_laws_sameInts, c_laws_alive, c_spec_LoadOrder, c_impl_LoadOrder, c_spec_DrawLoadOrder, c_spec_PlanValid, c_impl_PlaceOf, c_impl_LoadOk, decide_false, room, Nat.reduceLeDiff, Nat.zero_le, storeAV, rowQ, ownInts, FT.of, FT.setf, elems, appAV_I, appI, srcI, ownI, anyI, sameR, appAV_P, appP, srcP, ownP, anyP, rowsAV, appAV, srcRows, srcFlat, reduceDIte, List.length_append, setAll, Option.isSome_some, List.drop_zero, Int.reduceToNat, List.set_cons_zero, List.set_cons_succ]
          repeat (refine And.intro ?_ ?_; focus (first | exact hpre.2 | (simp only [List.length_drop]; omega) | exact hb1 | exact hb3 | exact hb4 | first | exact ordP (by kernel_rfl) | with_reducible exact rfl | assumption | trivial | (simp only [inR]; omega) | omega | exact ⟨by omega, by omega⟩ | exact ⟨by omega, by omega, by omega⟩ | ((try simp only [decide_eq_true_eq, Bool.and_eq_true, ne_eq, decide_not, Bool.not_eq_true', Bool.not_eq_false', Bool.or_eq_false_iff, Bool.not_not, decide_eq_false_iff_not]); (try intro hh); (repeat' apply And.intro) <;> (first | omega | (simp only [inR]; omega) | assumption | exact hh.1 | exact hh.2 | exact hh.2.1 | exact hh.2.2 | exact hh.1.1 | exact hh.1.2 | (intro hq; exact ⟨hh, hq⟩) | (intro hq; exact ⟨hh.1, hq⟩) | (simp_all; done)))))
          refine hK22 _ ?_
          clear hK22
          refine W_seq (fun K23 hK23 => ?_)
          refine W_region_draw hT hG (by rw [hP]; exact draws_ok) [] [3, 4, 5, 6, 7, 10, 13] ?_
          rw [hnt]
          simp only [baseS, eq_self, implies_true, if_true, if_false, reduceIte, Nat.reduceBEq, Nat.reduceEqDiff, Nat.reduceLT, Nat.reduceAdd, reduceCtorEq, relC, callOK0, callOK1, fzE, c_spec_DrawLoadOrderR, tyInt, tdInt, tyBytes, tdBytes, tyInts, tdInts, tyHull, tdHull, tyBoxes, tdBoxes, c_laws_sameInts, c_laws_alive, c_spec_LoadOrder, c_impl_LoadOrder, c_spec_DrawLoadOrder, c_spec_PlanValid, c_impl_PlaceOf, c_impl_LoadOk, decide_false, room, Nat.reduceLeDiff, Nat.zero_le, storeAV, rowQ, ownInts, FT.of, FT.setf, elems, appAV_I, appI, srcI, ownI, anyI, sameR, appAV_P, appP, srcP, ownP, anyP, rowsAV, appAV, srcRows, srcFlat, reduceDIte, List.length_append, setAll, Option.isSome_some, List.drop_zero, Int.reduceToNat, List.set_cons_zero, List.set_cons_succ]
          repeat (refine And.intro ?_ ?_; focus (first | exact hpre.2 | (simp only [List.length_drop]; omega) | exact hb1 | exact hb3 | exact hb4 | first | exact ordP (by kernel_rfl) | with_reducible exact rfl | assumption | trivial | (simp only [inR]; omega) | omega | exact ⟨by omega, by omega⟩ | exact ⟨by omega, by omega, by omega⟩ | ((try simp only [decide_eq_true_eq, Bool.and_eq_true, ne_eq, decide_not, Bool.not_eq_true', Bool.not_eq_false', Bool.or_eq_false_iff, Bool.not_not, decide_eq_false_iff_not]); (try intro hh); (repeat' apply And.intro) <;> (first | omega | (simp only [inR]; omega) | assumption | exact hh.1 | exact hh.2 | exact hh.2.1 | exact hh.2.2 | exact hh.1.1 | exact hh.1.2 | (intro hq; exact ⟨hh, hq⟩) | (intro hq; exact ⟨hh.1, hq⟩) | (simp_all; done)))))
          refine hK23 _ ?_
          clear hK23
          refine W_seq (fun K24 hK24 => ?_)
          refine W_region hT hG [] [3, 4, 5, 6, 7, 74] ?_
          rw [hnt]
          simp only [baseS, eq_self, implies_true, if_true, if_false, reduceIte, Nat.reduceBEq, Nat.reduceEqDiff, Nat.reduceLT, Nat.reduceAdd, reduceCtorEq, relC, callOK0, callOK1, fzE, c_spec_DrawLoadOrderR, tyInt, tdInt, tyBytes, tdBytes, tyInts, tdInts, tyHull, tdHull, tyBoxes, tdBoxes, c_laws_sameInts, c_laws_alive, c_spec_LoadOrder, c_impl_LoadOrder, c_spec_DrawLoadOrder, c_spec_PlanValid, c_impl_PlaceOf, c_impl_LoadOk, decide_false, room, Nat.reduceLeDiff, Nat.zero_le, storeAV, rowQ, ownInts, FT.of, FT.setf, elems, appAV_I, appI, srcI, ownI, anyI, sameR, appAV_P, appP, srcP, ownP, anyP, rowsAV, appAV, srcRows, srcFlat, reduceDIte, List.length_append, setAll, Option.isSome_some, List.drop_zero, Int.reduceToNat, List.set_cons_zero, List.set_cons_succ]
          repeat (refine And.intro ?_ ?_; focus (first | exact hpre.2 | (simp only [List.length_drop]; omega) | exact hb1 | exact hb3 | exact hb4 | first | exact ordP (by kernel_rfl) | with_reducible exact rfl | assumption | trivial | (simp only [inR]; omega) | omega | exact ⟨by omega, by omega⟩ | exact ⟨by omega, by omega, by omega⟩ | ((try simp only [decide_eq_true_eq, Bool.and_eq_true, ne_eq, decide_not, Bool.not_eq_true', Bool.not_eq_false', Bool.or_eq_false_iff, Bool.not_not, decide_eq_false_iff_not]); (try intro hh); (repeat' apply And.intro) <;> (first | omega | (simp only [inR]; omega) | assumption | exact hh.1 | exact hh.2 | exact hh.2.1 | exact hh.2.2 | exact hh.1.1 | exact hh.1.2 | (intro hq; exact ⟨hh, hq⟩) | (intro hq; exact ⟨hh.1, hq⟩) | (simp_all; done)))))
          refine hK24 _ ?_
          clear hK24
          refine W_cond (b := _) rfl (fun hc25 => ?_) (fun hc25 => ?_)
          · try simp only [decide_eq_true_eq, decide_eq_false_iff_not, ne_eq, Decidable.not_not, Bool.not_eq_true', Bool.not_eq_false', Bool.or_eq_true, Bool.and_eq_true, Bool.or_eq_false_iff, Bool.and_eq_false_iff] at hc25
            have hq := ord_tier (b := y1) (r := y2) (t := y3) (bs := bs) (p := pl) (by assumption) hk0 hc20
            omega
          · try simp only [decide_eq_true_eq, decide_eq_false_iff_not, ne_eq, Decidable.not_not, Bool.not_eq_true', Bool.not_eq_false', Bool.or_eq_true, Bool.and_eq_true, Bool.or_eq_false_iff, Bool.and_eq_false_iff] at hc25
            refine W_skip ?_
            simp only [thenQ, blockQ, loopQ, reduceIte, Nat.reduceEqDiff]
            refine hK21 _ ?_
            clear hK21
            refine W_region hT hG [] [3, 4, 5, 6, 7] ?_
            rw [hnt]
            simp only [baseS, eq_self, implies_true, if_true, if_false, reduceIte, Nat.reduceBEq, Nat.reduceEqDiff, Nat.reduceLT, Nat.reduceAdd, reduceCtorEq, relC, callOK0, callOK1, fzE, c_spec_DrawLoadOrderR, tyInt, tdInt, tyBytes, tdBytes, tyInts, tdInts, tyHull, tdHull, tyBoxes, tdBoxes, c_laws_sameInts, c_laws_alive, c_spec_LoadOrder, c_impl_LoadOrder, c_spec_DrawLoadOrder, c_spec_PlanValid, c_impl_PlaceOf, c_impl_LoadOk, decide_false, room, Nat.reduceLeDiff, Nat.zero_le, storeAV, rowQ, ownInts, FT.of, FT.setf, elems, appAV_I, appI, srcI, ownI, anyI, sameR, appAV_P, appP, srcP, ownP, anyP, rowsAV, appAV, srcRows, srcFlat, reduceDIte, List.length_append, setAll, Option.isSome_some, List.drop_zero, Int.reduceToNat, List.set_cons_zero, List.set_cons_succ]
            repeat (refine And.intro ?_ ?_; focus (first | exact hpre.2 | (simp only [List.length_drop]; omega) | exact hb1 | exact hb3 | exact hb4 | first | exact ordP (by kernel_rfl) | with_reducible exact rfl | assumption | trivial | (simp only [inR]; omega) | omega | exact ⟨by omega, by omega⟩ | exact ⟨by omega, by omega, by omega⟩ | ((try simp only [decide_eq_true_eq, Bool.and_eq_true, ne_eq, decide_not, Bool.not_eq_true', Bool.not_eq_false', Bool.or_eq_false_iff, Bool.not_not, decide_eq_false_iff_not]); (try intro hh); (repeat' apply And.intro) <;> (first | omega | (simp only [inR]; omega) | assumption | exact hh.1 | exact hh.2 | exact hh.2.1 | exact hh.2.2 | exact hh.1.1 | exact hh.1.2 | (intro hq; exact ⟨hh, hq⟩) | (intro hq; exact ⟨hh.1, hq⟩) | (simp_all; done)))))
            refine ⟨k + 1, (by (try simp only [hnt, hnp]); rfl), ⟨by omega, by omega⟩, by dsimp only; omega⟩
        · try simp only [decide_eq_true_eq, decide_eq_false_iff_not, ne_eq, Decidable.not_not, Bool.not_eq_true', Bool.not_eq_false', Bool.or_eq_true, Bool.and_eq_true, Bool.or_eq_false_iff, Bool.and_eq_false_iff] at hc20
          refine W_exit ?_
          simp only [thenQ, blockQ, loopQ, reduceIte, Nat.reduceEqDiff]
          refine hK15 _ ?_
          clear hK15
          refine W_seq (fun K26 hK26 => ?_)
          refine W_region hT hG [] [2] ?_
          rw [hnt]
          simp only [baseS, eq_self, implies_true, if_true, if_false, reduceIte, Nat.reduceBEq, Nat.reduceEqDiff, Nat.reduceLT, Nat.reduceAdd, reduceCtorEq, relC, callOK0, callOK1, fzE, c_spec_DrawLoadOrderR, tyInt, tdInt, tyBytes, tdBytes, tyInts, tdInts, tyHull, tdHull, tyBoxes, tdBoxes, c_laws_sameInts, c_laws_alive, c_spec_LoadOrder, c_impl_LoadOrder, c_spec_DrawLoadOrder, c_spec_PlanValid, c_impl_PlaceOf, c_impl_LoadOk, decide_false, room, Nat.reduceLeDiff, Nat.zero_le, storeAV, rowQ, ownInts, FT.of, FT.setf, elems, appAV_I, appI, srcI, ownI, anyI, sameR, appAV_P, appP, srcP, ownP, anyP, rowsAV, appAV, srcRows, srcFlat, reduceDIte, List.length_append, setAll, Option.isSome_some, List.drop_zero, Int.reduceToNat, List.set_cons_zero, List.set_cons_succ]
          repeat (refine And.intro ?_ ?_; focus (first | exact hpre.2 | (simp only [List.length_drop]; omega) | exact hb1 | exact hb3 | exact hb4 | first | exact ordP (by kernel_rfl) | with_reducible exact rfl | assumption | trivial | (simp only [inR]; omega) | omega | exact ⟨by omega, by omega⟩ | exact ⟨by omega, by omega, by omega⟩ | ((try simp only [decide_eq_true_eq, Bool.and_eq_true, ne_eq, decide_not, Bool.not_eq_true', Bool.not_eq_false', Bool.or_eq_false_iff, Bool.not_not, decide_eq_false_iff_not]); (try intro hh); (repeat' apply And.intro) <;> (first | omega | (simp only [inR]; omega) | assumption | exact hh.1 | exact hh.2 | exact hh.2.1 | exact hh.2.2 | exact hh.1.1 | exact hh.1.2 | (intro hq; exact ⟨hh, hq⟩) | (intro hq; exact ⟨hh.1, hq⟩) | (simp_all; done)))))
          refine hK26 _ ?_
          clear hK26
          refine W_ret ?_
          simp only [thenQ, blockQ, loopQ, retQ, reduceIte, Nat.reduceEqDiff]
          refine ret0 ?_ rfl rfl (.inr rfl) rfl
          simp only [show Try.f7.results.toList = [ResultVar.tmp 2] from rfl, resAV, resL, look, Nat.reduceEqDiff, reduceIte, tyHull, tdHull, applyUps, noH, isStr, List.length_cons, List.length_nil, Nat.reduceAdd, and_self]
          all_goals (
            first | rfl | (refine congrArg (fun x => some (AV.bool x)) ?_; first | (rw [hno]; rfl) | exact ord_load (by assumption) | (simp_all; done)) | skip)

end Go.Proofs.Ytpiaeckkjdcifaa
