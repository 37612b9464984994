/- Walk over the law laws.FnBestOrder. No condition. -/
import Derived.Test.YtpiaeckkjdcifaaDrawBO
import Derived.Test.YtpiaeckkjdcifaaLoadOrd
import Derived.Test.YtpiaeckkjdcifaaBestE
import Derived.Test.YtpiaeckkjdcifaaSpecB
import Derived.Test.YtpiaeckkjdcifaaAlive
import Derived.Test.YtpiaeckkjdcifaaTopU
namespace Go.Proofs.Ytpiaeckkjdcifaa
open Go
set_option linter.unusedVariables false
set_option linter.unusedSimpArgs false

theorem ordR_no {b r t : Int} {bs : List BoxD} {p : List Int} (h : planB b r t bs p = false) : ordR b r t bs p = [] := by rw [ordR, h]; rfl
theorem ord_at {b r t : Int} {bs : List BoxD} {p : List Int} (h : planB b r t bs p = true) {k : Nat} (hk : k < (ordR b r t bs p).length) : ((0 ≤ (ordR b r t bs p).getD k 0 ∧ (ordR b r t bs p).getD k 0 < p.length) ∧ p.getD ((ordR b r t bs p).getD k 0).toNat 0 ≠ 0) ∧ ∀ j, j < k → lexB t ((ordR b r t bs p).getD j 0) ((ordR b r t bs p).getD k 0) = true := by
  have ht := hv_t (planB_ok h).ship
  have e : ordR b r t bs p = catT t p t.toNat := by rw [ordR, if_pos h]
  rw [e] at hk ⊢
  have hpw := List.pairwise_iff_getElem.1 (catT_pw (show 0 < t by omega) p t.toNat)
  have hg : ∀ j (hj : j < (catT t p t.toNat).length), (catT t p t.toNat).getD j 0 = (catT t p t.toNat)[j] := fun j hj => by rw [List.getD_eq_getElem?_getD, List.getElem?_eq_getElem hj]; rfl
  have hm : (catT t p t.toNat).getD k 0 ∈ catT t p t.toNat := by rw [hg k hk]; exact List.getElem_mem hk
  obtain ⟨⟨q, hq, e2, hf⟩, _⟩ := (catT_mem (by omega) _).1 hm
  rw [← e2]
  refine ⟨⟨by omega, ?_⟩, fun j hj => ?_⟩
  · simp only [fullP, decide_eq_true_eq] at hf; simpa using hf
  · rw [e2, hg k hk, hg j (by omega)]; exact hpw j k (by omega) hk hj
theorem ord_load {b r t : Int} {bs : List BoxD} {p : List Int} (h : planB b r t bs p = true) : loadB b r t bs p (ordR b r t bs p) = true := by
  have hok := planB_ok h
  have ht := hv_t hok.ship
  have hat := fun k hk => ord_at (k := k) h hk
  have e : ordR b r t bs p = catT t p t.toNat := by rw [ordR, if_pos h]
  have hlen : (ordR b r t bs p).length = (fullS p).length := by rw [e, ord_eq (by omega), sortI_len]
  have hall : (List.range (ordR b r t bs p).length).all (ordB t p (ordR b r t bs p)) = true := by
    rw [List.all_eq_true]
    intro k hk
    rw [List.mem_range] at hk
    obtain ⟨⟨hr, hf⟩, hlt⟩ := hat k hk
    refine ord_of ⟨⟨by omega, hf⟩, fun hm => ?_⟩ ?_
    · obtain ⟨j, hj, _, e1⟩ := mem_take_getD hm
      have := hlt j hj
      rw [e1, lexB_iff] at this; omega
    · by_cases hz : 0 < (ordR b r t bs p).getD k 0 % t
      · right
        generalize hx : (ordR b r t bs p).getD k 0 = x at *
        have hfirm := hok.firm x.toNat (by omega) hf (by rw [show ((x.toNat : Nat) : Int) = x by omega]; exact hz)
        have hx1 : 1 ≤ x := by
          rcases Int.lt_or_le x 1 with h1 | h1
          · have : x = 0 := by omega
            rw [this] at hz; simp at hz
          · exact h1
        have hmod := emod_pred (s := x) (by omega) hz
        have hm : x - 1 ∈ ordR b r t bs p := by
          rw [e]
          refine (catT_mem (by omega) _).2 ⟨⟨x.toNat - 1, by omega, by omega, by simp only [fullP, decide_eq_true_eq]; exact hfirm⟩, ?_⟩
          have := Int.emod_lt_of_pos (x - 1) (show 0 < t by omega)
          omega
        obtain ⟨j, hj, e1⟩ := mem_getD hm
        have hjk : j < k := by
          rcases Nat.lt_trichotomy j k with h1 | h1 | h1
          · exact h1
          · subst h1; omega
          · have := (hat j hj).2 k h1
            rw [hx, e1, lexB_iff] at this; omega
        have : (ordR b r t bs p).getD j 0 ∈ (ordR b r t bs p).take k := by
          rw [List.mem_iff_getElem?]
          exact ⟨j, by rw [List.getElem?_take, if_pos hjk, List.getElem?_eq_getElem hj, List.getD_eq_getElem?_getD, List.getElem?_eq_getElem hj]; rfl⟩
        rw [← e1]; exact this
      · exact .inl hz
  simp only [loadB, h, hall, Bool.true_and, Bool.and_true, decide_eq_true_eq]
  omega

/-- The best order is allowed, and no worse than tier by tier. -/
theorem best_ord (b r t : Int) (bs : List BoxD) (p : List Int) (h : bestOK b r t bs p = true) : (loadB b r t bs p (bestR b r t bs p) = true ∧ 0 ≤ worstR b r t bs p (bestR b r t bs p)) ∧ worstR b r t bs p (bestR b r t bs p) ≤ worstR b r t bs p (ordR b r t bs p) := by
  have h2 := h
  simp only [bestOK, Bool.and_eq_true] at h2
  obtain ⟨h3, h4⟩ := best_le (ord_load h2.1) h
  exact ⟨⟨worst_nn h3, h3⟩, h4⟩
theorem best_none (b r t : Int) (bs : List BoxD) (p : List Int) (h : bestOK b r t bs p = false) : (bestR b r t bs p).length = 0 := by
  rw [bestR, h]; rfl
theorem bestOK_eq (b r t : Int) (bs : List BoxD) (p : List Int) : (planB b r t bs p && decide ((fullS p).length ≤ 7)) = bestOK b r t bs p := rfl

def c_laws_FnBestOrder : Ctr where
  modes := [.v (.r .u8)]
  al := false
  run := fun xs os => match xs, os with
    | [.rs .u8 b], [] => some ⟨b.length ≤ 9223372036854775807 ∧ ∀ x ∈ b, 0 ≤ x ∧ x ≤ 255, .bool true, [], []⟩
    | _, _ => none
set_option maxHeartbeats 400000 in
theorem m_laws_FnBestOrder : Meets Try.prog 11 c_laws_FnBestOrder := by
  refine meets_of (T := tyT) tyOK Try.func11 (by rfl) rfl (by decide) ?_
  intro args owns R hrun hpre
  simp only [c_laws_FnBestOrder] at hrun
  split at hrun
  case h_2 => cases hrun
  rename_i b
  cases hrun
  try dsimp only at hpre
  refine ⟨_, rfl, fun E hP hnt hnp => ?_⟩
  replace hnt : E.nt = 77 := hnt
  replace hnp : E.np = 1 := hnp
  have hT : ∀ t d, tyT t = some d → TyOK E.P t d := hP ▸ tyOK
  have hG : ∀ f C, Γof [(15, c_laws_sameInts), (17, c_laws_alive), (35, c_impl_LoadOrder), (41, c_impl_LoadOk), (50, c_spec_BestOrder), (51, c_impl_BestOrder), (52, c_spec_DrawBestOrder), (53, c_impl_WorstHeel)] f = some C → Meets E.P f C := hΓof (by rw [hP]; exact ⟨m_laws_sameInts, m_laws_alive, m_impl_LoadOrder, m_impl_LoadOk, m_spec_BestOrder, m_impl_BestOrder, m_spec_DrawBestOrder, m_impl_WorstHeel, trivial⟩)
  try simp only [show Try.f11.ntmps = 77 from rfl]
  refine W_seq (fun K1 hK1 => ?_)
  refine W_region hT hG [100062, 100063, 100064, 100066, 100067, 100068, 100069, 100070, 100071, 100072, 100073, 100074, 100075, 100076] [0] ?_
  rw [hnt]
  simp only [baseS, eq_self, implies_true, if_true, if_false, reduceIte, Nat.reduceBEq, Nat.reduceEqDiff, Nat.reduceLT, Nat.reduceAdd, reduceCtorEq, relC, callOK0, callOK1, fzE, c_spec_DrawBestOrderR, tyInt, tdInt, tyBool, tdBool, tyBytes, tdBytes, tyInts, tdInts, tyHull, tdHull, tyBoxes, tdBoxes, c_laws_sameInts, c_laws_alive, c_impl_LoadOrder, c_impl_LoadOk, c_spec_BestOrder, c_impl_BestOrder, c_spec_DrawBestOrder, c_impl_WorstHeel, decide_false, room, Nat.reduceLeDiff, Nat.zero_le, storeAV, rowQ, ownInts, FT.of, FT.setf, elems, appAV_I, appI, srcI, ownI, anyI, sameR, appAV_P, appP, srcP, ownP, anyP, rowsAV, appAV, srcRows, srcFlat, reduceDIte, List.length_append, setAll, Option.isSome_some, List.drop_zero, Int.reduceToNat, List.set_cons_zero, List.set_cons_succ, Int.toNat_natCast, bne_self_eq_false, best_eq, bestOK_eq]
  repeat (refine And.intro ?_ ?_; focus (first | exact ordP (by kernel_rfl) | exact hpre.2 | (simp only [List.length_drop]; omega) | exact hb1 | exact hb2 | exact hb5 | exact hb6 | exact hb7 | (with_reducible exact hbk.1.1) | (with_reducible exact hbk.1.2) | first | exact ordP (by kernel_rfl) | with_reducible exact rfl | assumption | trivial | (simp only [inR]; omega) | omega | exact ⟨by omega, by omega⟩ | exact ⟨by omega, by omega, by omega⟩ | ((try simp only [decide_eq_true_eq, Bool.and_eq_true, ne_eq, decide_not, Bool.not_eq_true', Bool.not_eq_false', Bool.or_eq_false_iff, Bool.not_not, decide_eq_false_iff_not]); (try intro hh); (repeat' apply And.intro) <;> (first | omega | (simp only [inR]; omega) | assumption | exact hh.1 | exact hh.2 | exact hh.2.1 | exact hh.2.2 | exact hh.1.1 | exact hh.1.2 | (intro hq; exact ⟨hh, hq⟩) | (intro hq; exact ⟨hh.1, hq⟩) | (simp_all; done)))))
  refine hK1 _ ?_
  clear hK1
  refine W_seq (fun K2 hK2 => ?_)
  refine W_seq (fun K3 hK3 => ?_)
  refine W_region hT hG [100062, 100063, 100064, 100066, 100067, 100068, 100069, 100070, 100071, 100072, 100073, 100074, 100075, 100076] [0, 13] ?_
  rw [hnt]
  simp only [baseS, eq_self, implies_true, if_true, if_false, reduceIte, Nat.reduceBEq, Nat.reduceEqDiff, Nat.reduceLT, Nat.reduceAdd, reduceCtorEq, relC, callOK0, callOK1, fzE, c_spec_DrawBestOrderR, tyInt, tdInt, tyBool, tdBool, tyBytes, tdBytes, tyInts, tdInts, tyHull, tdHull, tyBoxes, tdBoxes, c_laws_sameInts, c_laws_alive, c_impl_LoadOrder, c_impl_LoadOk, c_spec_BestOrder, c_impl_BestOrder, c_spec_DrawBestOrder, c_impl_WorstHeel, decide_false, room, Nat.reduceLeDiff, Nat.zero_le, storeAV, rowQ, ownInts, FT.of, FT.setf, elems, appAV_I, appI, srcI, ownI, anyI, sameR, appAV_P, appP, srcP, ownP, anyP, rowsAV, appAV, srcRows, srcFlat, reduceDIte, List.length_append, setAll, Option.isSome_some, List.drop_zero, Int.reduceToNat, List.set_cons_zero, List.set_cons_succ, Int.toNat_natCast, bne_self_eq_false, best_eq, bestOK_eq]
  repeat (refine And.intro ?_ ?_; focus (first | exact ordP (by kernel_rfl) | exact hpre.2 | (simp only [List.length_drop]; omega) | exact hb1 | exact hb2 | exact hb5 | exact hb6 | exact hb7 | (with_reducible exact hbk.1.1) | (with_reducible exact hbk.1.2) | first | exact ordP (by kernel_rfl) | with_reducible exact rfl | assumption | trivial | (simp only [inR]; omega) | omega | exact ⟨by omega, by omega⟩ | exact ⟨by omega, by omega, by omega⟩ | ((try simp only [decide_eq_true_eq, Bool.and_eq_true, ne_eq, decide_not, Bool.not_eq_true', Bool.not_eq_false', Bool.or_eq_false_iff, Bool.not_not, decide_eq_false_iff_not]); (try intro hh); (repeat' apply And.intro) <;> (first | omega | (simp only [inR]; omega) | assumption | exact hh.1 | exact hh.2 | exact hh.2.1 | exact hh.2.2 | exact hh.1.1 | exact hh.1.2 | (intro hq; exact ⟨hh, hq⟩) | (intro hq; exact ⟨hh.1, hq⟩) | (simp_all; done)))))
  refine hK3 _ ?_
  clear hK3
  refine W_cond (b := _) rfl (fun hc4 => ?_) (fun hc4 => ?_)
  · try simp only [decide_eq_true_eq, decide_eq_false_iff_not, ne_eq, Decidable.not_not, Bool.not_eq_true', Bool.not_eq_false', Bool.or_eq_true, Bool.and_eq_true, Bool.or_eq_false_iff, Bool.and_eq_false_iff] at hc4
    refine W_seq (fun K5 hK5 => ?_)
    refine W_region hT hG [100062, 100063, 100064, 100066, 100067, 100068, 100069, 100070, 100071, 100072, 100073, 100074, 100075, 100076] [2] ?_
    rw [hnt]
    simp only [baseS, eq_self, implies_true, if_true, if_false, reduceIte, Nat.reduceBEq, Nat.reduceEqDiff, Nat.reduceLT, Nat.reduceAdd, reduceCtorEq, relC, callOK0, callOK1, fzE, c_spec_DrawBestOrderR, tyInt, tdInt, tyBool, tdBool, tyBytes, tdBytes, tyInts, tdInts, tyHull, tdHull, tyBoxes, tdBoxes, c_laws_sameInts, c_laws_alive, c_impl_LoadOrder, c_impl_LoadOk, c_spec_BestOrder, c_impl_BestOrder, c_spec_DrawBestOrder, c_impl_WorstHeel, decide_false, room, Nat.reduceLeDiff, Nat.zero_le, storeAV, rowQ, ownInts, FT.of, FT.setf, elems, appAV_I, appI, srcI, ownI, anyI, sameR, appAV_P, appP, srcP, ownP, anyP, rowsAV, appAV, srcRows, srcFlat, reduceDIte, List.length_append, setAll, Option.isSome_some, List.drop_zero, Int.reduceToNat, List.set_cons_zero, List.set_cons_succ, Int.toNat_natCast, bne_self_eq_false, best_eq, bestOK_eq]
    repeat (refine And.intro ?_ ?_; focus (first | exact ordP (by kernel_rfl) | exact hpre.2 | (simp only [List.length_drop]; omega) | exact hb1 | exact hb2 | exact hb5 | exact hb6 | exact hb7 | (with_reducible exact hbk.1.1) | (with_reducible exact hbk.1.2) | first | exact ordP (by kernel_rfl) | with_reducible exact rfl | assumption | trivial | (simp only [inR]; omega) | omega | exact ⟨by omega, by omega⟩ | exact ⟨by omega, by omega, by omega⟩ | ((try simp only [decide_eq_true_eq, Bool.and_eq_true, ne_eq, decide_not, Bool.not_eq_true', Bool.not_eq_false', Bool.or_eq_false_iff, Bool.not_not, decide_eq_false_iff_not]); (try intro hh); (repeat' apply And.intro) <;> (first | omega | (simp only [inR]; omega) | assumption | exact hh.1 | exact hh.2 | exact hh.2.1 | exact hh.2.2 | exact hh.1.1 | exact hh.1.2 | (intro hq; exact ⟨hh, hq⟩) | (intro hq; exact ⟨hh.1, hq⟩) | (simp_all; done)))))
    refine hK5 _ ?_
    clear hK5
    refine W_ret ?_
    simp only [thenQ, blockQ, loopQ, retQ, reduceIte, Nat.reduceEqDiff]
    refine ret0 ?_ rfl rfl (.inr rfl) rfl
    simp only [show Try.f11.results.toList = [ResultVar.tmp 2] from rfl, resAV, resL, look, Nat.reduceEqDiff, reduceIte, tyHull, tdHull, applyUps, noH, isStr, List.length_cons, List.length_nil, Nat.reduceAdd, and_self]
    all_goals (
      first | rfl | (refine congrArg (fun x => some (AV.bool x)) ?_; first | (simp_all; done)) | skip)
  · try simp only [decide_eq_true_eq, decide_eq_false_iff_not, ne_eq, Decidable.not_not, Bool.not_eq_true', Bool.not_eq_false', Bool.or_eq_true, Bool.and_eq_true, Bool.or_eq_false_iff, Bool.and_eq_false_iff] at hc4
    refine W_skip ?_
    simp only [thenQ, blockQ, loopQ, reduceIte, Nat.reduceEqDiff]
    refine hK2 _ ?_
    clear hK2
    refine W_seq (fun K6 hK6 => ?_)
    refine W_region hT hG [100062, 100063, 100064, 100066, 100067, 100068, 100069, 100070, 100071, 100072, 100073, 100074, 100075, 100076] [3, 4, 5] ?_
    rw [hnt]
    simp only [baseS, eq_self, implies_true, if_true, if_false, reduceIte, Nat.reduceBEq, Nat.reduceEqDiff, Nat.reduceLT, Nat.reduceAdd, reduceCtorEq, relC, callOK0, callOK1, fzE, c_spec_DrawBestOrderR, tyInt, tdInt, tyBool, tdBool, tyBytes, tdBytes, tyInts, tdInts, tyHull, tdHull, tyBoxes, tdBoxes, c_laws_sameInts, c_laws_alive, c_impl_LoadOrder, c_impl_LoadOk, c_spec_BestOrder, c_impl_BestOrder, c_spec_DrawBestOrder, c_impl_WorstHeel, decide_false, room, Nat.reduceLeDiff, Nat.zero_le, storeAV, rowQ, ownInts, FT.of, FT.setf, elems, appAV_I, appI, srcI, ownI, anyI, sameR, appAV_P, appP, srcP, ownP, anyP, rowsAV, appAV, srcRows, srcFlat, reduceDIte, List.length_append, setAll, Option.isSome_some, List.drop_zero, Int.reduceToNat, List.set_cons_zero, List.set_cons_succ, Int.toNat_natCast, bne_self_eq_false, best_eq, bestOK_eq]
    repeat (refine And.intro ?_ ?_; focus (first | exact ordP (by kernel_rfl) | exact hpre.2 | (simp only [List.length_drop]; omega) | exact hb1 | exact hb2 | exact hb5 | exact hb6 | exact hb7 | (with_reducible exact hbk.1.1) | (with_reducible exact hbk.1.2) | first | exact ordP (by kernel_rfl) | with_reducible exact rfl | assumption | trivial | (simp only [inR]; omega) | omega | exact ⟨by omega, by omega⟩ | exact ⟨by omega, by omega, by omega⟩ | ((try simp only [decide_eq_true_eq, Bool.and_eq_true, ne_eq, decide_not, Bool.not_eq_true', Bool.not_eq_false', Bool.or_eq_false_iff, Bool.not_not, decide_eq_false_iff_not]); (try intro hh); (repeat' apply And.intro) <;> (first | omega | (simp only [inR]; omega) | assumption | exact hh.1 | exact hh.2 | exact hh.2.1 | exact hh.2.2 | exact hh.1.1 | exact hh.1.2 | (intro hq; exact ⟨hh, hq⟩) | (intro hq; exact ⟨hh.1, hq⟩) | (simp_all; done)))))
    rintro _ ⟨y1, y2, y3, bs, pl, rfl, hbl, hpl⟩
    have hb1 : bs.length ≤ 9223372036854775807 ∧ pl.length ≤ 9223372036854775807 := ⟨by omega, by omega⟩
    have hb2 : bs.length ≤ 9223372036854775807 ∧ pl.length ≤ 1099511627775 := ⟨by omega, by omega⟩
    have hfl := fullS_len pl
    have hbl2 := bestR_len y1 y2 y3 bs pl
    have hll := @ordR_len y1 y2 y3 bs pl
    have hb5 : (bs.length ≤ 9223372036854775807 ∧ pl.length ≤ 9223372036854775807) ∧ (bestR y1 y2 y3 bs pl).length ≤ 9223372036854775807 := ⟨hb1, by omega⟩
    have hb6 : (bs.length ≤ 9223372036854775807 ∧ pl.length ≤ 9223372036854775807) ∧ (ordR y1 y2 y3 bs pl).length ≤ 9223372036854775807 := ⟨hb1, by omega⟩
    have hb7 : bs.length ≤ 9223372036854775807 ∧ pl.length ≤ 9223372036854775807 ∧ (bestR y1 y2 y3 bs pl).length ≤ 9223372036854775807 := ⟨by omega, by omega, by omega⟩
    have hbo := best_ord y1 y2 y3 bs pl
    have hbn := best_none y1 y2 y3 bs pl
    simp only [baseS, eq_self, implies_true, if_true, if_false, reduceIte, Nat.reduceBEq, Nat.reduceEqDiff, Nat.reduceLT, Nat.reduceAdd, reduceCtorEq, relC, callOK0, callOK1, fzE, c_spec_DrawBestOrderR, tyInt, tdInt, tyBool, tdBool, tyBytes, tdBytes, tyInts, tdInts, tyHull, tdHull, tyBoxes, tdBoxes, c_laws_sameInts, c_laws_alive, c_impl_LoadOrder, c_impl_LoadOk, c_spec_BestOrder, c_impl_BestOrder, c_spec_DrawBestOrder, c_impl_WorstHeel, decide_false, room, Nat.reduceLeDiff, Nat.zero_le, storeAV, rowQ, ownInts, FT.of, FT.setf, elems, appAV_I, appI, srcI, ownI, anyI, sameR, appAV_P, appP, srcP, ownP, anyP, rowsAV, appAV, srcRows, srcFlat, reduceDIte, List.length_append, setAll, Option.isSome_some, List.drop_zero, Int.reduceToNat, List.set_cons_zero, List.set_cons_succ, Int.toNat_natCast, bne_self_eq_false, best_eq, bestOK_eq]
    repeat (refine And.intro ?_ ?_; focus (first | exact ordP (by kernel_rfl) | exact hpre.2 | (simp only [List.length_drop]; omega) | exact hb1 | exact hb2 | exact hb5 | exact hb6 | exact hb7 | (with_reducible exact hbk.1.1) | (with_reducible exact hbk.1.2) | first | exact ordP (by kernel_rfl) | with_reducible exact rfl | assumption | trivial | (simp only [inR]; omega) | omega | exact ⟨by omega, by omega⟩ | exact ⟨by omega, by omega, by omega⟩ | ((try simp only [decide_eq_true_eq, Bool.and_eq_true, ne_eq, decide_not, Bool.not_eq_true', Bool.not_eq_false', Bool.or_eq_false_iff, Bool.not_not, decide_eq_false_iff_not]); (try intro hh); (repeat' apply And.intro) <;> (first | omega | (simp only [inR]; omega) | assumption | exact hh.1 | exact hh.2 | exact hh.2.1 | exact hh.2.2 | exact hh.1.1 | exact hh.1.2 | (intro hq; exact ⟨hh, hq⟩) | (intro hq; exact ⟨hh.1, hq⟩) | (simp_all; done)))))
    refine hK6 _ ?_
    clear hK6
    refine W_seq (fun K7 hK7 => ?_)
    refine W_region hT hG [100062, 100063, 100064, 100066, 100067, 100068, 100069, 100070, 100071, 100072, 100073, 100074, 100075, 100076] [3, 4, 5, 6, 7] ?_
    rw [hnt]
    simp only [baseS, eq_self, implies_true, if_true, if_false, reduceIte, Nat.reduceBEq, Nat.reduceEqDiff, Nat.reduceLT, Nat.reduceAdd, reduceCtorEq, relC, callOK0, callOK1, fzE, c_spec_DrawBestOrderR, tyInt, tdInt, tyBool, tdBool, tyBytes, tdBytes, tyInts, tdInts, tyHull, tdHull, tyBoxes, tdBoxes, c_laws_sameInts, c_laws_alive, c_impl_LoadOrder, c_impl_LoadOk, c_spec_BestOrder, c_impl_BestOrder, c_spec_DrawBestOrder, c_impl_WorstHeel, decide_false, room, Nat.reduceLeDiff, Nat.zero_le, storeAV, rowQ, ownInts, FT.of, FT.setf, elems, appAV_I, appI, srcI, ownI, anyI, sameR, appAV_P, appP, srcP, ownP, anyP, rowsAV, appAV, srcRows, srcFlat, reduceDIte, List.length_append, setAll, Option.isSome_some, List.drop_zero, Int.reduceToNat, List.set_cons_zero, List.set_cons_succ, Int.toNat_natCast, bne_self_eq_false, best_eq, bestOK_eq]
    repeat (refine And.intro ?_ ?_; focus (first | exact ordP (by kernel_rfl) | exact hpre.2 | (simp only [List.length_drop]; omega) | exact hb1 | exact hb2 | exact hb5 | exact hb6 | exact hb7 | (with_reducible exact hbk.1.1) | (with_reducible exact hbk.1.2) | first | exact ordP (by kernel_rfl) | with_reducible exact rfl | assumption | trivial | (simp only [inR]; omega) | omega | exact ⟨by omega, by omega⟩ | exact ⟨by omega, by omega, by omega⟩ | ((try simp only [decide_eq_true_eq, Bool.and_eq_true, ne_eq, decide_not, Bool.not_eq_true', Bool.not_eq_false', Bool.or_eq_false_iff, Bool.not_not, decide_eq_false_iff_not]); (try intro hh); (repeat' apply And.intro) <;> (first | omega | (simp only [inR]; omega) | assumption | exact hh.1 | exact hh.2 | exact hh.2.1 | exact hh.2.2 | exact hh.1.1 | exact hh.1.2 | (intro hq; exact ⟨hh, hq⟩) | (intro hq; exact ⟨hh.1, hq⟩) | (simp_all; done)))))
    refine hK7 _ ?_
    clear hK7
    refine W_seq (fun K8 hK8 => ?_)
    refine W_region hT hG [100062, 100063, 100064, 100066, 100067, 100068, 100069, 100070, 100071, 100072, 100073, 100074, 100075, 100076] [3, 4, 5, 6, 7, 8, 9] ?_
    rw [hnt]
    simp only [baseS, eq_self, implies_true, if_true, if_false, reduceIte, Nat.reduceBEq, Nat.reduceEqDiff, Nat.reduceLT, Nat.reduceAdd, reduceCtorEq, relC, callOK0, callOK1, fzE, c_spec_DrawBestOrderR, tyInt, tdInt, tyBool, tdBool, tyBytes, tdBytes, tyInts, tdInts, tyHull, tdHull, tyBoxes, tdBoxes, c_laws_sameInts, c_laws_alive, c_impl_LoadOrder, c_impl_LoadOk, c_spec_BestOrder, c_impl_BestOrder, c_spec_DrawBestOrder, c_impl_WorstHeel, decide_false, room, Nat.reduceLeDiff, Nat.zero_le, storeAV, rowQ, ownInts, FT.of, FT.setf, elems, appAV_I, appI, srcI, ownI, anyI, sameR, appAV_P, appP, srcP, ownP, anyP, rowsAV, appAV, srcRows, srcFlat, reduceDIte, List.length_append, setAll, Option.isSome_some, List.drop_zero, Int.reduceToNat, List.set_cons_zero, List.set_cons_succ, Int.toNat_natCast, bne_self_eq_false, best_eq, bestOK_eq]
    repeat (refine And.intro ?_ ?_; focus (first | exact ordP (by kernel_rfl) | exact hpre.2 | (simp only [List.length_drop]; omega) | exact hb1 | exact hb2 | exact hb5 | exact hb6 | exact hb7 | (with_reducible exact hbk.1.1) | (with_reducible exact hbk.1.2) | first | exact ordP (by kernel_rfl) | with_reducible exact rfl | assumption | trivial | (simp only [inR]; omega) | omega | exact ⟨by omega, by omega⟩ | exact ⟨by omega, by omega, by omega⟩ | ((try simp only [decide_eq_true_eq, Bool.and_eq_true, ne_eq, decide_not, Bool.not_eq_true', Bool.not_eq_false', Bool.or_eq_false_iff, Bool.not_not, decide_eq_false_iff_not]); (try intro hh); (repeat' apply And.intro) <;> (first | omega | (simp only [inR]; omega) | assumption | exact hh.1 | exact hh.2 | exact hh.2.1 | exact hh.2.2 | exact hh.1.1 | exact hh.1.2 | (intro hq; exact ⟨hh, hq⟩) | (intro hq; exact ⟨hh.1, hq⟩) | (simp_all; done)))))
    refine hK8 _ ?_
    clear hK8
    refine W_seq (fun K9 hK9 => ?_)
    refine W_seq (fun K10 hK10 => ?_)
    refine W_region hT hG [100062, 100063, 100064, 100066, 100067, 100068, 100069, 100070, 100071, 100072, 100073, 100074, 100075, 100076] [3, 4, 5, 6, 7, 42] ?_
    rw [hnt]
    simp only [baseS, eq_self, implies_true, if_true, if_false, reduceIte, Nat.reduceBEq, Nat.reduceEqDiff, Nat.reduceLT, Nat.reduceAdd, reduceCtorEq, relC, callOK0, callOK1, fzE, c_spec_DrawBestOrderR, tyInt, tdInt, tyBool, tdBool, tyBytes, tdBytes, tyInts, tdInts, tyHull, tdHull, tyBoxes, tdBoxes, c_laws_sameInts, c_laws_alive, c_impl_LoadOrder, c_impl_LoadOk, c_spec_BestOrder, c_impl_BestOrder, c_spec_DrawBestOrder, c_impl_WorstHeel, decide_false, room, Nat.reduceLeDiff, Nat.zero_le, storeAV, rowQ, ownInts, FT.of, FT.setf, elems, appAV_I, appI, srcI, ownI, anyI, sameR, appAV_P, appP, srcP, ownP, anyP, rowsAV, appAV, srcRows, srcFlat, reduceDIte, List.length_append, setAll, Option.isSome_some, List.drop_zero, Int.reduceToNat, List.set_cons_zero, List.set_cons_succ, Int.toNat_natCast, bne_self_eq_false, best_eq, bestOK_eq]
    repeat (refine And.intro ?_ ?_; focus (first | exact ordP (by kernel_rfl) | exact hpre.2 | (simp only [List.length_drop]; omega) | exact hb1 | exact hb2 | exact hb5 | exact hb6 | exact hb7 | (with_reducible exact hbk.1.1) | (with_reducible exact hbk.1.2) | first | exact ordP (by kernel_rfl) | with_reducible exact rfl | assumption | trivial | (simp only [inR]; omega) | omega | exact ⟨by omega, by omega⟩ | exact ⟨by omega, by omega, by omega⟩ | ((try simp only [decide_eq_true_eq, Bool.and_eq_true, ne_eq, decide_not, Bool.not_eq_true', Bool.not_eq_false', Bool.or_eq_false_iff, Bool.not_not, decide_eq_false_iff_not]); (try intro hh); (repeat' apply And.intro) <;> (first | omega | (simp only [inR]; omega) | assumption | exact hh.1 | exact hh.2 | exact hh.2.1 | exact hh.2.2 | exact hh.1.1 | exact hh.1.2 | (intro hq; exact ⟨hh, hq⟩) | (intro hq; exact ⟨hh.1, hq⟩) | (simp_all; done)))))
    refine hK10 _ ?_
    clear hK10
    refine W_cond (b := _) rfl (fun hc11 => ?_) (fun hc11 => ?_)
    · try simp only [decide_eq_true_eq, decide_eq_false_iff_not, ne_eq, Decidable.not_not, Bool.not_eq_true', Bool.not_eq_false', Bool.or_eq_true, Bool.and_eq_true, Bool.or_eq_false_iff, Bool.and_eq_false_iff] at hc11
      first | exact absurd rfl hc11 | (simp at hc11; done) | exact absurd trivial hc11
    · try simp only [decide_eq_true_eq, decide_eq_false_iff_not, ne_eq, Decidable.not_not, Bool.not_eq_true', Bool.not_eq_false', Bool.or_eq_true, Bool.and_eq_true, Bool.or_eq_false_iff, Bool.and_eq_false_iff] at hc11
      refine W_skip ?_
      simp only [thenQ, blockQ, loopQ, reduceIte, Nat.reduceEqDiff]
      refine hK9 _ ?_
      clear hK9
      refine W_seq (fun K12 hK12 => ?_)
      refine W_seq (fun K13 hK13 => ?_)
      refine W_region hT hG [100062, 100063, 100064, 100066, 100067, 100068, 100069, 100070, 100071, 100072, 100073, 100074, 100075, 100076] [3, 4, 5, 6, 44] ?_
      rw [hnt]
      simp only [baseS, eq_self, implies_true, if_true, if_false, reduceIte, Nat.reduceBEq, Nat.reduceEqDiff, Nat.reduceLT, Nat.reduceAdd, reduceCtorEq, relC, callOK0, callOK1, fzE, c_spec_DrawBestOrderR, tyInt, tdInt, tyBool, tdBool, tyBytes, tdBytes, tyInts, tdInts, tyHull, tdHull, tyBoxes, tdBoxes, c_laws_sameInts, c_laws_alive, c_impl_LoadOrder, c_impl_LoadOk, c_spec_BestOrder, c_impl_BestOrder, c_spec_DrawBestOrder, c_impl_WorstHeel, decide_false, room, Nat.reduceLeDiff, Nat.zero_le, storeAV, rowQ, ownInts, FT.of, FT.setf, elems, appAV_I, appI, srcI, ownI, anyI, sameR, appAV_P, appP, srcP, ownP, anyP, rowsAV, appAV, srcRows, srcFlat, reduceDIte, List.length_append, setAll, Option.isSome_some, List.drop_zero, Int.reduceToNat, List.set_cons_zero, List.set_cons_succ, Int.toNat_natCast, bne_self_eq_false, best_eq, bestOK_eq]
      repeat (refine And.intro ?_ ?_; focus (first | exact ordP (by kernel_rfl) | exact hpre.2 | (simp only [List.length_drop]; omega) | exact hb1 | exact hb2 | exact hb5 | exact hb6 | exact hb7 | (with_reducible exact hbk.1.1) | (with_reducible exact hbk.1.2) | first | exact ordP (by kernel_rfl) | with_reducible exact rfl | assumption | trivial | (simp only [inR]; omega) | omega | exact ⟨by omega, by omega⟩ | exact ⟨by omega, by omega, by omega⟩ | ((try simp only [decide_eq_true_eq, Bool.and_eq_true, ne_eq, decide_not, Bool.not_eq_true', Bool.not_eq_false', Bool.or_eq_false_iff, Bool.not_not, decide_eq_false_iff_not]); (try intro hh); (repeat' apply And.intro) <;> (first | omega | (simp only [inR]; omega) | assumption | exact hh.1 | exact hh.2 | exact hh.2.1 | exact hh.2.2 | exact hh.1.1 | exact hh.1.2 | (intro hq; exact ⟨hh, hq⟩) | (intro hq; exact ⟨hh.1, hq⟩) | (simp_all; done)))))
      refine hK13 _ ?_
      clear hK13
      refine W_cond (b := _) rfl (fun hc14 => ?_) (fun hc14 => ?_)
      · try simp only [decide_eq_true_eq, decide_eq_false_iff_not, ne_eq, Decidable.not_not, Bool.not_eq_true', Bool.not_eq_false', Bool.or_eq_true, Bool.and_eq_true, Bool.or_eq_false_iff, Bool.and_eq_false_iff] at hc14
        refine W_seq (fun K15 hK15 => ?_)
        refine W_region hT hG [100062, 100063, 100064, 100066, 100067, 100068, 100069, 100070, 100071, 100072, 100073, 100074, 100075, 100076] [2] ?_
        rw [hnt]
        have hbn0 := hbn hc14
        simp only [baseS, eq_self, implies_true, if_true, if_false, reduceIte, Nat.reduceBEq, Nat.reduceEqDiff, Nat.reduceLT, Nat.reduceAdd, reduceCtorEq, relC, callOK0, callOK1, fzE, c_spec_DrawBestOrderR, tyInt, tdInt, tyBool, tdBool, tyBytes, tdBytes, tyInts, tdInts, tyHull, tdHull, tyBoxes, tdBoxes, c_laws_sameInts, c_laws_alive, c_impl_LoadOrder, c_impl_LoadOk, c_spec_BestOrder, c_impl_BestOrder, c_spec_DrawBestOrder, c_impl_WorstHeel, decide_false, room, Nat.reduceLeDiff, Nat.zero_le, storeAV, rowQ, ownInts, FT.of, FT.setf, elems, appAV_I, appI, srcI, ownI, anyI, sameR, appAV_P, appP, srcP, ownP, anyP, rowsAV, appAV, srcRows, srcFlat, reduceDIte, List.length_append, setAll, Option.isSome_some, List.drop_zero, Int.reduceToNat, List.set_cons_zero, List.set_cons_succ, Int.toNat_natCast, bne_self_eq_false, best_eq, bestOK_eq, hbn0]
        repeat (refine And.intro ?_ ?_; focus (first | exact ordP (by kernel_rfl) | exact hpre.2 | (simp only [List.length_drop]; omega) | exact hb1 | exact hb2 | exact hb5 | exact hb6 | exact hb7 | (with_reducible exact hbk.1.1) | (with_reducible exact hbk.1.2) | first | exact ordP (by kernel_rfl) | with_reducible exact rfl | assumption | trivial | (simp only [inR]; omega) | omega | exact ⟨by omega, by omega⟩ | exact ⟨by omega, by omega, by omega⟩ | ((try simp only [decide_eq_true_eq, Bool.and_eq_true, ne_eq, decide_not, Bool.not_eq_true', Bool.not_eq_false', Bool.or_eq_false_iff, Bool.not_not, decide_eq_false_iff_not]); (try intro hh); (repeat' apply And.intro) <;> (first | omega | (simp only [inR]; omega) | assumption | exact hh.1 | exact hh.2 | exact hh.2.1 | exact hh.2.2 | exact hh.1.1 | exact hh.1.2 | (intro hq; exact ⟨hh, hq⟩) | (intro hq; exact ⟨hh.1, hq⟩) | (simp_all; done)))))
        refine hK15 _ ?_
        clear hK15
        refine W_ret ?_
        simp only [thenQ, blockQ, loopQ, retQ, reduceIte, Nat.reduceEqDiff]
        refine ret0 ?_ rfl rfl (.inr rfl) rfl
        simp only [show Try.f11.results.toList = [ResultVar.tmp 2] from rfl, resAV, resL, look, Nat.reduceEqDiff, reduceIte, tyHull, tdHull, applyUps, noH, isStr, List.length_cons, List.length_nil, Nat.reduceAdd, and_self]
        all_goals (
          first | rfl | (refine congrArg (fun x => some (AV.bool x)) ?_; first | (simp_all; done)) | skip)
      · try simp only [decide_eq_true_eq, decide_eq_false_iff_not, ne_eq, Decidable.not_not, Bool.not_eq_true', Bool.not_eq_false', Bool.or_eq_true, Bool.and_eq_true, Bool.or_eq_false_iff, Bool.and_eq_false_iff] at hc14
        refine W_skip ?_
        simp only [thenQ, blockQ, loopQ, reduceIte, Nat.reduceEqDiff]
        refine hK12 _ ?_
        clear hK12
        refine W_seq (fun K16 hK16 => ?_)
        refine W_region hT hG [100062, 100063, 100064, 100066, 100067, 100068, 100069, 100070, 100071, 100072, 100073, 100074, 100075, 100076] [3, 4, 5, 6, 10] ?_
        rw [hnt]
        have hbk := hbo hc14
        simp only [baseS, eq_self, implies_true, if_true, if_false, reduceIte, Nat.reduceBEq, Nat.reduceEqDiff, Nat.reduceLT, Nat.reduceAdd, reduceCtorEq, relC, callOK0, callOK1, fzE, c_spec_DrawBestOrderR, tyInt, tdInt, tyBool, tdBool, tyBytes, tdBytes, tyInts, tdInts, tyHull, tdHull, tyBoxes, tdBoxes, c_laws_sameInts, c_laws_alive, c_impl_LoadOrder, c_impl_LoadOk, c_spec_BestOrder, c_impl_BestOrder, c_spec_DrawBestOrder, c_impl_WorstHeel, decide_false, room, Nat.reduceLeDiff, Nat.zero_le, storeAV, rowQ, ownInts, FT.of, FT.setf, elems, appAV_I, appI, srcI, ownI, anyI, sameR, appAV_P, appP, srcP, ownP, anyP, rowsAV, appAV, srcRows, srcFlat, reduceDIte, List.length_append, setAll, Option.isSome_some, List.drop_zero, Int.reduceToNat, List.set_cons_zero, List.set_cons_succ, Int.toNat_natCast, bne_self_eq_false, best_eq, bestOK_eq]
        repeat (refine And.intro ?_ ?_; focus (first | exact ordP (by kernel_rfl) | exact hpre.2 | (simp only [List.length_drop]; omega) | exact hb1 | exact hb2 | exact hb5 | exact hb6 | exact hb7 | (with_reducible exact hbk.1.1) | (with_reducible exact hbk.1.2) | first | exact ordP (by kernel_rfl) | with_reducible exact rfl | assumption | trivial | (simp only [inR]; omega) | omega | exact ⟨by omega, by omega⟩ | exact ⟨by omega, by omega, by omega⟩ | ((try simp only [decide_eq_true_eq, Bool.and_eq_true, ne_eq, decide_not, Bool.not_eq_true', Bool.not_eq_false', Bool.or_eq_false_iff, Bool.not_not, decide_eq_false_iff_not]); (try intro hh); (repeat' apply And.intro) <;> (first | omega | (simp only [inR]; omega) | assumption | exact hh.1 | exact hh.2 | exact hh.2.1 | exact hh.2.2 | exact hh.1.1 | exact hh.1.2 | (intro hq; exact ⟨hh, hq⟩) | (intro hq; exact ⟨hh.1, hq⟩) | (simp_all; done)))))
        refine hK16 _ ?_
        clear hK16
        refine W_seq (fun K17 hK17 => ?_)
        refine W_region_draw hT hG (by rw [hP]; exact draws_ok) [100062, 100063, 100064, 100066, 100067, 100068, 100069, 100070, 100071, 100072, 100073, 100074, 100075, 100076] [2] ?_
        rw [hnt]
        simp only [baseS, eq_self, implies_true, if_true, if_false, reduceIte, Nat.reduceBEq, Nat.reduceEqDiff, Nat.reduceLT, Nat.reduceAdd, reduceCtorEq, relC, callOK0, callOK1, fzE, c_spec_DrawBestOrderR, tyInt, tdInt, tyBool, tdBool, tyBytes, tdBytes, tyInts, tdInts, tyHull, tdHull, tyBoxes, tdBoxes, c_laws_sameInts, c_laws_alive, c_impl_LoadOrder, c_impl_LoadOk, c_spec_BestOrder, c_impl_BestOrder, c_spec_DrawBestOrder, c_impl_WorstHeel, decide_false, room, Nat.reduceLeDiff, Nat.zero_le, storeAV, rowQ, ownInts, FT.of, FT.setf, elems, appAV_I, appI, srcI, ownI, anyI, sameR, appAV_P, appP, srcP, ownP, anyP, rowsAV, appAV, srcRows, srcFlat, reduceDIte, List.length_append, setAll, Option.isSome_some, List.drop_zero, Int.reduceToNat, List.set_cons_zero, List.set_cons_succ, Int.toNat_natCast, bne_self_eq_false, best_eq, bestOK_eq, hbk.1.1]
        repeat (refine And.intro ?_ ?_; focus (first | exact ordP (by kernel_rfl) | exact hpre.2 | (simp only [List.length_drop]; omega) | exact hb1 | exact hb2 | exact hb5 | exact hb6 | exact hb7 | (with_reducible exact hbk.1.1) | (with_reducible exact hbk.1.2) | first | exact ordP (by kernel_rfl) | with_reducible exact rfl | assumption | trivial | (simp only [inR]; omega) | omega | exact ⟨by omega, by omega⟩ | exact ⟨by omega, by omega, by omega⟩ | ((try simp only [decide_eq_true_eq, Bool.and_eq_true, ne_eq, decide_not, Bool.not_eq_true', Bool.not_eq_false', Bool.or_eq_false_iff, Bool.not_not, decide_eq_false_iff_not]); (try intro hh); (repeat' apply And.intro) <;> (first | omega | (simp only [inR]; omega) | assumption | exact hh.1 | exact hh.2 | exact hh.2.1 | exact hh.2.2 | exact hh.1.1 | exact hh.1.2 | (intro hq; exact ⟨hh, hq⟩) | (intro hq; exact ⟨hh.1, hq⟩) | (simp_all; done)))))
        refine hK17 _ ?_
        clear hK17
        refine W_ret ?_
        simp only [thenQ, blockQ, loopQ, retQ, reduceIte, Nat.reduceEqDiff]
        refine ret0 ?_ rfl rfl (.inr rfl) rfl
        simp only [show Try.f11.results.toList = [ResultVar.tmp 2] from rfl, resAV, resL, look, Nat.reduceEqDiff, reduceIte, tyHull, tdHull, applyUps, noH, isStr, List.length_cons, List.length_nil, Nat.reduceAdd, and_self]
        all_goals (
          first | rfl | (refine congrArg (fun x => some (AV.bool x)) ?_; first | (simp_all; done)) | skip)

end Go.Proofs.Ytpiaeckkjdcifaa
