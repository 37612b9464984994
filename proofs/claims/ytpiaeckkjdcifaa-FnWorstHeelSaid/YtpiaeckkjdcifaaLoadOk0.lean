/- Walk over loading step by step. No condition. -/
import Derived.Test.YtpiaeckkjdcifaaLoadOkL
import Derived.Test.YtpiaeckkjdcifaaPut
import Derived.Test.YtpiaeckkjdcifaaDrawP
namespace Go.Proofs.Ytpiaeckkjdcifaa
open Go
set_option linter.unusedVariables false
set_option linter.unusedSimpArgs false

/-- Loading by an order, step by step: the plan then, and whether all went well. -/
def ldF (b r t : Int) (bs : List BoxD) (p : List Int) : List Int → List Int → List Int × Bool
  | [], now => (now, true)
  | s :: o, now => if s < 0 ∨ (p.length : Int) ≤ s then (now, false) else if (putR b r t bs now s (p.getD s.toNat 0)).2 = true then ldF b r t bs p o (putR b r t bs now s (p.getD s.toNat 0)).1 else (now, false)
def ldR (b r t : Int) (bs : List BoxD) (p o : List Int) : List Int × Bool := ldF b r t bs p o (emptyR b r t)
theorem ldF_step {b r t : Int} {bs : List BoxD} {p o now : List Int} {i : Int} (h0 : 0 ≤ i) (h : i < o.length) : ldF b r t bs p (o.drop i.toNat) now = if o.getD i.toNat 0 < 0 ∨ (p.length : Int) ≤ o.getD i.toNat 0 then (now, false) else if (putR b r t bs now (o.getD i.toNat 0) (p.getD (o.getD i.toNat 0).toNat 0)).2 = true then ldF b r t bs p (o.drop (i + 1).toNat) (putR b r t bs now (o.getD i.toNat 0) (p.getD (o.getD i.toNat 0).toNat 0)).1 else (now, false) := by
  have ha : i.toNat < o.length := by omega
  have e : (i + 1).toNat = i.toNat + 1 := by omega
  have eo : o.getD i.toNat 0 = o[i.toNat] := by rw [List.getD_eq_getElem?_getD, List.getElem?_eq_getElem ha]; rfl
  rw [List.drop_eq_getElem_cons ha, ldF, e, eo]
theorem ldF_end {b r t : Int} {bs : List BoxD} {p o now : List Int} {i : Int} (h : ¬ i < o.length) : ldF b r t bs p (o.drop i.toNat) now = (now, true) := by
  rw [List.drop_eq_nil_of_le (by omega)]; rfl

def c_impl_PlanEmpty : Ctr where
  modes := [.v .p]
  al := false
  run := fun xs os => match xs, os with
    | [.agg [.int b, .int r, .int t]], [] => some ⟨True, .sl 0, [.sl 3 .i64 (emptyR b r t)], []⟩
    | _, _ => none
theorem m_impl_PlanEmpty : Meets Try.prog 107 c_impl_PlanEmpty := by
  refine meets_of (T := tyT) tyOK Try.func107 (by rfl) rfl (by decide) ?_
  intro args owns R hrun hpre
  simp only [c_impl_PlanEmpty] at hrun
  split at hrun
  case h_2 => cases hrun
  rename_i b r t
  cases hrun
  try dsimp only at hpre
  refine ⟨_, rfl, fun E hP hnt hnp => ?_⟩
  replace hnt : E.nt = 9 := hnt
  replace hnp : E.np = 1 := hnp
  have hT : ∀ t d, tyT t = some d → TyOK E.P t d := hP ▸ tyOK
  have hG : ∀ f C, Γof [(86, c_impl_HullValid), (87, c_impl_Hull_slots)] f = some C → Meets E.P f C := hΓof (by rw [hP]; exact ⟨m_impl_HullValid, m_impl_Hull_slots, trivial⟩)
  try simp only [show Try.f107.ntmps = 9 from rfl]
  have hbb := @hv_box b r t
  refine W_seq (fun K1 hK1 => ?_)
  refine W_region hT hG [] [1] ?_
  rw [hnt]
  simp only [baseS, eq_self, implies_true, if_true, if_false, reduceIte, Nat.reduceBEq, Nat.reduceEqDiff, Nat.reduceLT, Nat.reduceAdd, reduceCtorEq, tyInts, tdInts, tyHull, tdHull, c_impl_HullValid, c_impl_Hull_slots, decide_false, room, Nat.reduceLeDiff, Nat.zero_le, storeAV, rowQ, ownInts, FT.of, FT.setf, elems, appAV_I, appI, srcI, ownI, anyI, sameR, appAV_P, appP, srcP, ownP, anyP]
  repeat (refine And.intro ?_ ?_; focus (first | exact ordP (by kernel_rfl) | with_reducible exact rfl | assumption | trivial | (simp only [inR]; omega) | omega | (intro hh; (try obtain ⟨hh1, hh2⟩ := hh); (repeat' apply And.intro) <;> first | assumption | (simp only [inR]; omega) | omega | (intros; (repeat' apply And.intro) <;> first | assumption | (simp only [inR]; omega) | omega)) | (intros; (repeat' apply And.intro) <;> first | assumption | (simp only [inR]; omega) | omega | (simp_all; done) | (simp_all [inR]; omega))))
  refine hK1 _ ?_
  clear hK1
  refine W_seq (fun K2 hK2 => ?_)
  refine W_seq (fun K3 hK3 => ?_)
  refine W_region hT hG [] [1, 5] ?_
  rw [hnt]
  simp only [baseS, eq_self, implies_true, if_true, if_false, reduceIte, Nat.reduceBEq, Nat.reduceEqDiff, Nat.reduceLT, Nat.reduceAdd, reduceCtorEq, tyInts, tdInts, tyHull, tdHull, c_impl_HullValid, c_impl_Hull_slots, decide_false, room, Nat.reduceLeDiff, Nat.zero_le, storeAV, rowQ, ownInts, FT.of, FT.setf, elems, appAV_I, appI, srcI, ownI, anyI, sameR, appAV_P, appP, srcP, ownP, anyP]
  repeat (refine And.intro ?_ ?_; focus (first | exact ordP (by kernel_rfl) | with_reducible exact rfl | assumption | trivial | (simp only [inR]; omega) | omega | (intro hh; (try obtain ⟨hh1, hh2⟩ := hh); (repeat' apply And.intro) <;> first | assumption | (simp only [inR]; omega) | omega | (intros; (repeat' apply And.intro) <;> first | assumption | (simp only [inR]; omega) | omega)) | (intros; (repeat' apply And.intro) <;> first | assumption | (simp only [inR]; omega) | omega | (simp_all; done) | (simp_all [inR]; omega))))
  refine hK3 _ ?_
  clear hK3
  refine W_cond (b := _) rfl (fun hc4 => ?_) (fun hc4 => ?_)
  · try simp only [decide_eq_true_eq, decide_eq_false_iff_not, ne_eq, Decidable.not_not, Bool.not_eq_true', Bool.not_eq_false', Bool.or_eq_true, Bool.and_eq_true, Bool.or_eq_false_iff, Bool.and_eq_false_iff] at hc4
    refine W_seq (fun K5 hK5 => ?_)
    refine W_region hT hG [] [2] ?_
    rw [hnt]
    simp only [baseS, eq_self, implies_true, if_true, if_false, reduceIte, Nat.reduceBEq, Nat.reduceEqDiff, Nat.reduceLT, Nat.reduceAdd, reduceCtorEq, tyInts, tdInts, tyHull, tdHull, c_impl_HullValid, c_impl_Hull_slots, decide_false, room, Nat.reduceLeDiff, Nat.zero_le, storeAV, rowQ, ownInts, FT.of, FT.setf, elems, appAV_I, appI, srcI, ownI, anyI, sameR, appAV_P, appP, srcP, ownP, anyP]
    repeat (refine And.intro ?_ ?_; focus (first | exact ordP (by kernel_rfl) | with_reducible exact rfl | assumption | trivial | (simp only [inR]; omega) | omega | (intro hh; (try obtain ⟨hh1, hh2⟩ := hh); (repeat' apply And.intro) <;> first | assumption | (simp only [inR]; omega) | omega | (intros; (repeat' apply And.intro) <;> first | assumption | (simp only [inR]; omega) | omega)) | (intros; (repeat' apply And.intro) <;> first | assumption | (simp only [inR]; omega) | omega | (simp_all; done) | (simp_all [inR]; omega))))
    refine hK5 _ ?_
    clear hK5
    refine W_re [(2, .own 3 .i64)] (by (try simp only [hnt, hnp]); rfl) ?_
    refine W_ret ?_
    simp only [thenQ, blockQ, loopQ, retQ, reduceIte, Nat.reduceEqDiff]
    refine ret1s 2 rfl rfl rfl ?_
    all_goals (
      first | (rw [emptyR, if_pos hc4]; done) | (rw [emptyR, hc4]; rfl))
  · try simp only [decide_eq_true_eq, decide_eq_false_iff_not, ne_eq, Decidable.not_not, Bool.not_eq_true', Bool.not_eq_false', Bool.or_eq_true, Bool.and_eq_true, Bool.or_eq_false_iff, Bool.and_eq_false_iff] at hc4
    refine W_skip ?_
    simp only [thenQ, blockQ, loopQ, reduceIte, Nat.reduceEqDiff]
    refine hK2 _ ?_
    clear hK2
    refine W_seq (fun K6 hK6 => ?_)
    refine W_region hT hG [] [2] ?_
    rw [hnt]
    have hq := hbb hc4
    simp only [baseS, eq_self, implies_true, if_true, if_false, reduceIte, Nat.reduceBEq, Nat.reduceEqDiff, Nat.reduceLT, Nat.reduceAdd, reduceCtorEq, tyInts, tdInts, tyHull, tdHull, c_impl_HullValid, c_impl_Hull_slots, decide_false, room, Nat.reduceLeDiff, Nat.zero_le, storeAV, rowQ, ownInts, FT.of, FT.setf, elems, appAV_I, appI, srcI, ownI, anyI, sameR, appAV_P, appP, srcP, ownP, anyP]
    repeat (refine And.intro ?_ ?_; focus (first | exact ordP (by kernel_rfl) | with_reducible exact rfl | assumption | trivial | (simp only [inR]; omega) | omega | (intro hh; (try obtain ⟨hh1, hh2⟩ := hh); (repeat' apply And.intro) <;> first | assumption | (simp only [inR]; omega) | omega | (intros; (repeat' apply And.intro) <;> first | assumption | (simp only [inR]; omega) | omega)) | (intros; (repeat' apply And.intro) <;> first | assumption | (simp only [inR]; omega) | omega | (simp_all; done) | (simp_all [inR]; omega))))
    refine hK6 _ ?_
    clear hK6
    refine W_re [(2, .own 3 .i64)] (by (try simp only [hnt, hnp]); rfl) ?_
    refine W_ret ?_
    simp only [thenQ, blockQ, loopQ, retQ, reduceIte, Nat.reduceEqDiff]
    refine ret1s 2 rfl rfl rfl ?_
    all_goals (
      first | (rw [emptyR, if_pos hc4]; done) | (rw [emptyR, hc4]; rfl))

def c_laws_loaded : Ctr where
  modes := [.v .p, .v (.r .box), .v (.r .i64), .v (.r .i64)]
  al := false
  run := fun xs os => match xs, os with
    | [.agg [.int b, .int r, .int t], .rs .box bs, .rs .i64 p, .rs .i64 o], [] => some ⟨bs.length ≤ 9223372036854775807 ∧ p.length ≤ 9223372036854775807 ∧ o.length ≤ 9223372036854775807, .tup [.sl 0, .bool (ldR b r t bs p o).2], [.sl 3 .i64 (ldR b r t bs p o).1], []⟩
    | _, _ => none
theorem m_laws_loaded : Meets Try.prog 56 c_laws_loaded := by
  refine meets_of (T := tyT) tyOK Try.func56 (by rfl) rfl (by decide) ?_
  intro args owns R hrun hpre
  simp only [c_laws_loaded] at hrun
  split at hrun
  case h_2 => cases hrun
  rename_i b r t bs p o
  cases hrun
  try dsimp only at hpre
  refine ⟨_, rfl, fun E hP hnt hnp => ?_⟩
  replace hnt : E.nt = 60 := hnt
  replace hnp : E.np = 4 := hnp
  have hT : ∀ t d, tyT t = some d → TyOK E.P t d := hP ▸ tyOK
  have hG : ∀ f C, Γof [(107, c_impl_PlanEmpty), (108, c_impl_PlanPut)] f = some C → Meets E.P f C := hΓof (by rw [hP]; exact ⟨m_impl_PlanEmpty, m_impl_PlanPut, trivial⟩)
  try simp only [show Try.f56.ntmps = 60 from rfl]
  have hbs := hpre.1
  have hp := hpre.2.1
  have ho := hpre.2.2
  have hel := empty_len b r t
  have hput := putR_le b r t bs
  refine W_seq (fun K1 hK1 => ?_)
  refine W_region hT hG [] [1, 2, 3, 4] ?_
  rw [hnt]
  simp only [baseS, eq_self, implies_true, if_true, if_false, reduceIte, Nat.reduceBEq, Nat.reduceEqDiff, Nat.reduceLT, Nat.reduceAdd, reduceCtorEq, tyInt, tdInt, tyInts, tdInts, tyHull, tdHull, tyBoxes, tdBoxes, c_impl_PlanEmpty, c_impl_PlanPut, decide_false, room, Nat.reduceLeDiff, Nat.zero_le, storeAV, rowQ, ownInts, FT.of, FT.setf, elems, appAV_I, appI, srcI, ownI, anyI, sameR, appAV_P, appP, srcP, ownP, anyP]
  repeat (refine And.intro ?_ ?_; focus (first | exact ordP (by kernel_rfl) | with_reducible exact rfl | assumption | trivial | (simp only [inR]; omega) | omega | exact ⟨by omega, by omega⟩ | exact ⟨by omega, by omega, by omega⟩ | exact ⟨by omega, by omega⟩ | ((try simp only [decide_eq_true_eq, Bool.and_eq_true, ne_eq, decide_not, Bool.not_eq_true', Bool.not_eq_false', Bool.or_eq_false_iff, Bool.not_not, decide_eq_false_iff_not]); (try intro hh); (repeat' apply And.intro) <;> (first | omega | (simp only [inR]; omega) | assumption | exact ⟨by omega, by omega⟩ | exact hh.1 | exact hh.2 | exact hh.2.1 | exact hh.2.2 | exact hh.1.1 | exact hh.1.2 | (intro hq; exact ⟨hh, hq⟩) | (intro hq; exact ⟨hh.1, hq⟩) | (simp_all; done)))))
  refine hK1 _ ?_
  clear hK1
  refine W_seq (fun K2 hK2 => ?_)
  refine W_region hT hG [] [1, 2, 3, 4, 10] ?_
  rw [hnt]
  simp only [baseS, eq_self, implies_true, if_true, if_false, reduceIte, Nat.reduceBEq, Nat.reduceEqDiff, Nat.reduceLT, Nat.reduceAdd, reduceCtorEq, tyInt, tdInt, tyInts, tdInts, tyHull, tdHull, tyBoxes, tdBoxes, c_impl_PlanEmpty, c_impl_PlanPut, decide_false, room, Nat.reduceLeDiff, Nat.zero_le, storeAV, rowQ, ownInts, FT.of, FT.setf, elems, appAV_I, appI, srcI, ownI, anyI, sameR, appAV_P, appP, srcP, ownP, anyP]
  repeat (refine And.intro ?_ ?_; focus (first | exact ordP (by kernel_rfl) | with_reducible exact rfl | assumption | trivial | (simp only [inR]; omega) | omega | exact ⟨by omega, by omega⟩ | exact ⟨by omega, by omega, by omega⟩ | exact ⟨by omega, by omega⟩ | ((try simp only [decide_eq_true_eq, Bool.and_eq_true, ne_eq, decide_not, Bool.not_eq_true', Bool.not_eq_false', Bool.or_eq_false_iff, Bool.not_not, decide_eq_false_iff_not]); (try intro hh); (repeat' apply And.intro) <;> (first | omega | (simp only [inR]; omega) | assumption | exact ⟨by omega, by omega⟩ | exact hh.1 | exact hh.2 | exact hh.2.1 | exact hh.2.2 | exact hh.1.1 | exact hh.1.2 | (intro hq; exact ⟨hh, hq⟩) | (intro hq; exact ⟨hh.1, hq⟩) | (simp_all; done)))))
  refine hK2 _ ?_
  clear hK2
  refine W_seq (fun K3 hK3 => ?_)
  refine W_seq (fun K4 hK4 => ?_)
  refine W_region hT hG [] [1, 2, 3, 4, 10, 11] ?_
  rw [hnt]
  simp only [baseS, eq_self, implies_true, if_true, if_false, reduceIte, Nat.reduceBEq, Nat.reduceEqDiff, Nat.reduceLT, Nat.reduceAdd, reduceCtorEq, tyInt, tdInt, tyInts, tdInts, tyHull, tdHull, tyBoxes, tdBoxes, c_impl_PlanEmpty, c_impl_PlanPut, decide_false, room, Nat.reduceLeDiff, Nat.zero_le, storeAV, rowQ, ownInts, FT.of, FT.setf, elems, appAV_I, appI, srcI, ownI, anyI, sameR, appAV_P, appP, srcP, ownP, anyP]
  repeat (refine And.intro ?_ ?_; focus (first | exact ordP (by kernel_rfl) | with_reducible exact rfl | assumption | trivial | (simp only [inR]; omega) | omega | exact ⟨by omega, by omega⟩ | exact ⟨by omega, by omega, by omega⟩ | exact ⟨by omega, by omega⟩ | ((try simp only [decide_eq_true_eq, Bool.and_eq_true, ne_eq, decide_not, Bool.not_eq_true', Bool.not_eq_false', Bool.or_eq_false_iff, Bool.not_not, decide_eq_false_iff_not]); (try intro hh); (repeat' apply And.intro) <;> (first | omega | (simp only [inR]; omega) | assumption | exact ⟨by omega, by omega⟩ | exact hh.1 | exact hh.2 | exact hh.2.1 | exact hh.2.2 | exact hh.1.1 | exact hh.1.2 | (intro hq; exact ⟨hh, hq⟩) | (intro hq; exact ⟨hh.1, hq⟩) | (simp_all; done)))))
  refine hK4 _ ?_
  clear hK4
  refine W_block ?_
  refine W_loop (α := Int × List Int) [(1, .as), (2, .as), (3, .as), (4, .as), (10, .own 3 .i64), (11, .as)] (fun x => ⟨[(1, .rs .box bs), (2, .rs .i64 p), (3, .rs .i64 o), (4, .rp [.int b, .int r, .int t]), (10, .sl 10), (11, .int x.1)], [(10, some (.sl 3 .i64 x.2))], 60⟩) (fun x => (0 ≤ x.1 ∧ x.1 ≤ o.length) ∧ x.2.length ≤ 36 ∧ ldF b r t bs p (o.drop x.1.toNat) x.2 = ldR b r t bs p o) (fun x => (o.length - x.1).toNat) (0, emptyR b r t) ?_ ?_ ?_
  · (try simp only [hnt, hnp]); rfl
  · exact ⟨by dsimp only; omega, by dsimp only; omega, rfl⟩
  rintro ⟨i, now⟩ ⟨hi, hl, hI⟩
  dsimp only at hi hl hI ⊢
  have hst := @ldF_step b r t bs p o now i hi.1
  have hend := @ldF_end b r t bs p o now i
  have hpl := hput now (o.getD i.toNat 0) (p.getD (o.getD i.toNat 0).toNat 0)
  refine W_seq (fun K6 hK6 => ?_)
  refine W_seq (fun K7 hK7 => ?_)
  refine W_region hT hG [] [1, 2, 3, 4, 10, 11, 19] ?_
  rw [hnt]
  simp only [baseS, eq_self, implies_true, if_true, if_false, reduceIte, Nat.reduceBEq, Nat.reduceEqDiff, Nat.reduceLT, Nat.reduceAdd, reduceCtorEq, tyInt, tdInt, tyInts, tdInts, tyHull, tdHull, tyBoxes, tdBoxes, c_impl_PlanEmpty, c_impl_PlanPut, decide_false, room, Nat.reduceLeDiff, Nat.zero_le, storeAV, rowQ, ownInts, FT.of, FT.setf, elems, appAV_I, appI, srcI, ownI, anyI, sameR, appAV_P, appP, srcP, ownP, anyP]
  repeat (refine And.intro ?_ ?_; focus (first | exact ordP (by kernel_rfl) | with_reducible exact rfl | assumption | trivial | (simp only [inR]; omega) | omega | exact ⟨by omega, by omega⟩ | exact ⟨by omega, by omega, by omega⟩ | exact ⟨by omega, by omega⟩ | ((try simp only [decide_eq_true_eq, Bool.and_eq_true, ne_eq, decide_not, Bool.not_eq_true', Bool.not_eq_false', Bool.or_eq_false_iff, Bool.not_not, decide_eq_false_iff_not]); (try intro hh); (repeat' apply And.intro) <;> (first | omega | (simp only [inR]; omega) | assumption | exact ⟨by omega, by omega⟩ | exact hh.1 | exact hh.2 | exact hh.2.1 | exact hh.2.2 | exact hh.1.1 | exact hh.1.2 | (intro hq; exact ⟨hh, hq⟩) | (intro hq; exact ⟨hh.1, hq⟩) | (simp_all; done)))))
  refine hK7 _ ?_
  clear hK7
  refine W_cond (b := _) rfl (fun hc8 => ?_) (fun hc8 => ?_)
  · try simp only [decide_eq_true_eq, decide_eq_false_iff_not, ne_eq, Decidable.not_not, Bool.not_eq_true', Bool.not_eq_false', Bool.or_eq_true, Bool.and_eq_true, Bool.or_eq_false_iff, Bool.and_eq_false_iff] at hc8
    refine W_skip ?_
    simp only [thenQ, blockQ, loopQ, reduceIte, Nat.reduceEqDiff]
    refine hK6 _ ?_
    clear hK6
    refine W_seq (fun K9 hK9 => ?_)
    refine W_block ?_
    refine W_seq (fun K10 hK10 => ?_)
    refine W_seq (fun K11 hK11 => ?_)
    refine W_region hT hG [] [1, 2, 3, 4, 10, 11, 35] ?_
    rw [hnt]
    simp only [baseS, eq_self, implies_true, if_true, if_false, reduceIte, Nat.reduceBEq, Nat.reduceEqDiff, Nat.reduceLT, Nat.reduceAdd, reduceCtorEq, tyInt, tdInt, tyInts, tdInts, tyHull, tdHull, tyBoxes, tdBoxes, c_impl_PlanEmpty, c_impl_PlanPut, decide_false, room, Nat.reduceLeDiff, Nat.zero_le, storeAV, rowQ, ownInts, FT.of, FT.setf, elems, appAV_I, appI, srcI, ownI, anyI, sameR, appAV_P, appP, srcP, ownP, anyP]
    repeat (refine And.intro ?_ ?_; focus (first | exact ordP (by kernel_rfl) | with_reducible exact rfl | assumption | trivial | (simp only [inR]; omega) | omega | exact ⟨by omega, by omega⟩ | exact ⟨by omega, by omega, by omega⟩ | exact ⟨by omega, by omega⟩ | ((try simp only [decide_eq_true_eq, Bool.and_eq_true, ne_eq, decide_not, Bool.not_eq_true', Bool.not_eq_false', Bool.or_eq_false_iff, Bool.not_not, decide_eq_false_iff_not]); (try intro hh); (repeat' apply And.intro) <;> (first | omega | (simp only [inR]; omega) | assumption | exact ⟨by omega, by omega⟩ | exact hh.1 | exact hh.2 | exact hh.2.1 | exact hh.2.2 | exact hh.1.1 | exact hh.1.2 | (intro hq; exact ⟨hh, hq⟩) | (intro hq; exact ⟨hh.1, hq⟩) | (simp_all; done)))))
    refine hK11 _ ?_
    clear hK11
    refine W_cond (b := _) rfl (fun hc12 => ?_) (fun hc12 => ?_)
    · try simp only [decide_eq_true_eq, decide_eq_false_iff_not, ne_eq, Decidable.not_not, Bool.not_eq_true', Bool.not_eq_false', Bool.or_eq_true, Bool.and_eq_true, Bool.or_eq_false_iff, Bool.and_eq_false_iff] at hc12
      refine W_seq (fun K13 hK13 => ?_)
      refine W_region hT hG [] [8, 9] ?_
      rw [hnt]
      simp only [baseS, eq_self, implies_true, if_true, if_false, reduceIte, Nat.reduceBEq, Nat.reduceEqDiff, Nat.reduceLT, Nat.reduceAdd, reduceCtorEq, tyInt, tdInt, tyInts, tdInts, tyHull, tdHull, tyBoxes, tdBoxes, c_impl_PlanEmpty, c_impl_PlanPut, decide_false, room, Nat.reduceLeDiff, Nat.zero_le, storeAV, rowQ, ownInts, FT.of, FT.setf, elems, appAV_I, appI, srcI, ownI, anyI, sameR, appAV_P, appP, srcP, ownP, anyP]
      repeat (refine And.intro ?_ ?_; focus (first | exact ordP (by kernel_rfl) | with_reducible exact rfl | assumption | trivial | (simp only [inR]; omega) | omega | exact ⟨by omega, by omega⟩ | exact ⟨by omega, by omega, by omega⟩ | exact ⟨by omega, by omega⟩ | ((try simp only [decide_eq_true_eq, Bool.and_eq_true, ne_eq, decide_not, Bool.not_eq_true', Bool.not_eq_false', Bool.or_eq_false_iff, Bool.not_not, decide_eq_false_iff_not]); (try intro hh); (repeat' apply And.intro) <;> (first | omega | (simp only [inR]; omega) | assumption | exact ⟨by omega, by omega⟩ | exact hh.1 | exact hh.2 | exact hh.2.1 | exact hh.2.2 | exact hh.1.1 | exact hh.1.2 | (intro hq; exact ⟨hh, hq⟩) | (intro hq; exact ⟨hh.1, hq⟩) | (simp_all; done)))))
      refine hK13 _ ?_
      clear hK13
      refine W_re [(8, .own 3 .i64), (9, .as)] (by (try simp only [hnt, hnp]); rfl) ?_
      refine W_ret ?_
      simp only [thenQ, blockQ, loopQ, retQ, reduceIte, Nat.reduceEqDiff]
      refine ret1sb 8 rfl rfl rfl ?_ ?_
      all_goals (
        first | (rw [← hI, hst (by omega), if_pos (by omega)]; done) | (rw [← hI, hst (by omega), if_neg (by omega), if_neg (by simp_all)]; done) | (rw [← hI, hend (by omega)]; done) | (simp_all; done))
    · try simp only [decide_eq_true_eq, decide_eq_false_iff_not, ne_eq, Decidable.not_not, Bool.not_eq_true', Bool.not_eq_false', Bool.or_eq_true, Bool.and_eq_true, Bool.or_eq_false_iff, Bool.and_eq_false_iff] at hc12
      refine W_skip ?_
      simp only [thenQ, blockQ, loopQ, reduceIte, Nat.reduceEqDiff]
      refine hK10 _ ?_
      clear hK10
      refine W_seq (fun K14 hK14 => ?_)
      refine W_region_draw hT hG (by rw [hP]; exact draws_ok) [] [1, 2, 3, 4, 10, 11, 12, 13] ?_
      rw [hnt]
      simp only [baseS, eq_self, implies_true, if_true, if_false, reduceIte, Nat.reduceBEq, Nat.reduceEqDiff, Nat.reduceLT, Nat.reduceAdd, reduceCtorEq, tyInt, tdInt, tyInts, tdInts, tyHull, tdHull, tyBoxes, tdBoxes, c_impl_PlanEmpty, c_impl_PlanPut, decide_false, room, Nat.reduceLeDiff, Nat.zero_le, storeAV, rowQ, ownInts, FT.of, FT.setf, elems, appAV_I, appI, srcI, ownI, anyI, sameR, appAV_P, appP, srcP, ownP, anyP]
      repeat (refine And.intro ?_ ?_; focus (first | exact ordP (by kernel_rfl) | with_reducible exact rfl | assumption | trivial | (simp only [inR]; omega) | omega | exact ⟨by omega, by omega⟩ | exact ⟨by omega, by omega, by omega⟩ | exact ⟨by omega, by omega⟩ | ((try simp only [decide_eq_true_eq, Bool.and_eq_true, ne_eq, decide_not, Bool.not_eq_true', Bool.not_eq_false', Bool.or_eq_false_iff, Bool.not_not, decide_eq_false_iff_not]); (try intro hh); (repeat' apply And.intro) <;> (first | omega | (simp only [inR]; omega) | assumption | exact ⟨by omega, by omega⟩ | exact hh.1 | exact hh.2 | exact hh.2.1 | exact hh.2.2 | exact hh.1.1 | exact hh.1.2 | (intro hq; exact ⟨hh, hq⟩) | (intro hq; exact ⟨hh.1, hq⟩) | (simp_all; done)))))
      refine hK14 _ ?_
      clear hK14
      refine W_seq (fun K15 hK15 => ?_)
      refine W_seq (fun K16 hK16 => ?_)
      refine W_region hT hG [] [1, 2, 3, 4, 10, 11, 12, 56] ?_
      rw [hnt]
      simp only [baseS, eq_self, implies_true, if_true, if_false, reduceIte, Nat.reduceBEq, Nat.reduceEqDiff, Nat.reduceLT, Nat.reduceAdd, reduceCtorEq, tyInt, tdInt, tyInts, tdInts, tyHull, tdHull, tyBoxes, tdBoxes, c_impl_PlanEmpty, c_impl_PlanPut, decide_false, room, Nat.reduceLeDiff, Nat.zero_le, storeAV, rowQ, ownInts, FT.of, FT.setf, elems, appAV_I, appI, srcI, ownI, anyI, sameR, appAV_P, appP, srcP, ownP, anyP]
      repeat (refine And.intro ?_ ?_; focus (first | exact ordP (by kernel_rfl) | with_reducible exact rfl | assumption | trivial | (simp only [inR]; omega) | omega | exact ⟨by omega, by omega⟩ | exact ⟨by omega, by omega, by omega⟩ | exact ⟨by omega, by omega⟩ | ((try simp only [decide_eq_true_eq, Bool.and_eq_true, ne_eq, decide_not, Bool.not_eq_true', Bool.not_eq_false', Bool.or_eq_false_iff, Bool.not_not, decide_eq_false_iff_not]); (try intro hh); (repeat' apply And.intro) <;> (first | omega | (simp only [inR]; omega) | assumption | exact ⟨by omega, by omega⟩ | exact hh.1 | exact hh.2 | exact hh.2.1 | exact hh.2.2 | exact hh.1.1 | exact hh.1.2 | (intro hq; exact ⟨hh, hq⟩) | (intro hq; exact ⟨hh.1, hq⟩) | (simp_all; done)))))
      refine hK16 _ ?_
      clear hK16
      refine W_cond (b := _) rfl (fun hc17 => ?_) (fun hc17 => ?_)
      · try simp only [decide_eq_true_eq, decide_eq_false_iff_not, ne_eq, Decidable.not_not, Bool.not_eq_true', Bool.not_eq_false', Bool.or_eq_true, Bool.and_eq_true, Bool.or_eq_false_iff, Bool.and_eq_false_iff] at hc17
        refine W_seq (fun K18 hK18 => ?_)
        refine W_region hT hG [] [8, 9] ?_
        rw [hnt]
        simp only [baseS, eq_self, implies_true, if_true, if_false, reduceIte, Nat.reduceBEq, Nat.reduceEqDiff, Nat.reduceLT, Nat.reduceAdd, reduceCtorEq, tyInt, tdInt, tyInts, tdInts, tyHull, tdHull, tyBoxes, tdBoxes, c_impl_PlanEmpty, c_impl_PlanPut, decide_false, room, Nat.reduceLeDiff, Nat.zero_le, storeAV, rowQ, ownInts, FT.of, FT.setf, elems, appAV_I, appI, srcI, ownI, anyI, sameR, appAV_P, appP, srcP, ownP, anyP]
        repeat (refine And.intro ?_ ?_; focus (first | exact ordP (by kernel_rfl) | with_reducible exact rfl | assumption | trivial | (simp only [inR]; omega) | omega | exact ⟨by omega, by omega⟩ | exact ⟨by omega, by omega, by omega⟩ | exact ⟨by omega, by omega⟩ | ((try simp only [decide_eq_true_eq, Bool.and_eq_true, ne_eq, decide_not, Bool.not_eq_true', Bool.not_eq_false', Bool.or_eq_false_iff, Bool.not_not, decide_eq_false_iff_not]); (try intro hh); (repeat' apply And.intro) <;> (first | omega | (simp only [inR]; omega) | assumption | exact ⟨by omega, by omega⟩ | exact hh.1 | exact hh.2 | exact hh.2.1 | exact hh.2.2 | exact hh.1.1 | exact hh.1.2 | (intro hq; exact ⟨hh, hq⟩) | (intro hq; exact ⟨hh.1, hq⟩) | (simp_all; done)))))
        refine hK18 _ ?_
        clear hK18
        refine W_re [(8, .own 3 .i64), (9, .as)] (by (try simp only [hnt, hnp]); rfl) ?_
        refine W_ret ?_
        simp only [thenQ, blockQ, loopQ, retQ, reduceIte, Nat.reduceEqDiff]
        refine ret1sb 8 rfl rfl rfl ?_ ?_
        all_goals (
          first | (rw [← hI, hst (by omega), if_pos (by omega)]; done) | (rw [← hI, hst (by omega), if_neg (by omega), if_neg (by simp_all)]; done) | (rw [← hI, hend (by omega)]; done) | (simp_all; done))
      · try simp only [decide_eq_true_eq, decide_eq_false_iff_not, ne_eq, Decidable.not_not, Bool.not_eq_true', Bool.not_eq_false', Bool.or_eq_true, Bool.and_eq_true, Bool.or_eq_false_iff, Bool.and_eq_false_iff] at hc17
        refine W_skip ?_
        simp only [thenQ, blockQ, loopQ, reduceIte, Nat.reduceEqDiff]
        refine hK15 _ ?_
        clear hK15
        refine W_region hT hG [] [1, 2, 3, 4, 10, 11] ?_
        rw [hnt]
        simp only [baseS, eq_self, implies_true, if_true, if_false, reduceIte, Nat.reduceBEq, Nat.reduceEqDiff, Nat.reduceLT, Nat.reduceAdd, reduceCtorEq, tyInt, tdInt, tyInts, tdInts, tyHull, tdHull, tyBoxes, tdBoxes, c_impl_PlanEmpty, c_impl_PlanPut, decide_false, room, Nat.reduceLeDiff, Nat.zero_le, storeAV, rowQ, ownInts, FT.of, FT.setf, elems, appAV_I, appI, srcI, ownI, anyI, sameR, appAV_P, appP, srcP, ownP, anyP]
        repeat (refine And.intro ?_ ?_; focus (first | exact ordP (by kernel_rfl) | with_reducible exact rfl | assumption | trivial | (simp only [inR]; omega) | omega | exact ⟨by omega, by omega⟩ | exact ⟨by omega, by omega, by omega⟩ | exact ⟨by omega, by omega⟩ | ((try simp only [decide_eq_true_eq, Bool.and_eq_true, ne_eq, decide_not, Bool.not_eq_true', Bool.not_eq_false', Bool.or_eq_false_iff, Bool.not_not, decide_eq_false_iff_not]); (try intro hh); (repeat' apply And.intro) <;> (first | omega | (simp only [inR]; omega) | assumption | exact ⟨by omega, by omega⟩ | exact hh.1 | exact hh.2 | exact hh.2.1 | exact hh.2.2 | exact hh.1.1 | exact hh.1.2 | (intro hq; exact ⟨hh, hq⟩) | (intro hq; exact ⟨hh.1, hq⟩) | (simp_all; done)))))
        refine hK9 _ ?_
        clear hK9
        refine W_region hT hG [] [1, 2, 3, 4, 10, 11] ?_
        rw [hnt]
        simp only [baseS, eq_self, implies_true, if_true, if_false, reduceIte, Nat.reduceBEq, Nat.reduceEqDiff, Nat.reduceLT, Nat.reduceAdd, reduceCtorEq, tyInt, tdInt, tyInts, tdInts, tyHull, tdHull, tyBoxes, tdBoxes, c_impl_PlanEmpty, c_impl_PlanPut, decide_false, room, Nat.reduceLeDiff, Nat.zero_le, storeAV, rowQ, ownInts, FT.of, FT.setf, elems, appAV_I, appI, srcI, ownI, anyI, sameR, appAV_P, appP, srcP, ownP, anyP]
        repeat (refine And.intro ?_ ?_; focus (first | exact ordP (by kernel_rfl) | with_reducible exact rfl | assumption | trivial | (simp only [inR]; omega) | omega | exact ⟨by omega, by omega⟩ | exact ⟨by omega, by omega, by omega⟩ | exact ⟨by omega, by omega⟩ | ((try simp only [decide_eq_true_eq, Bool.and_eq_true, ne_eq, decide_not, Bool.not_eq_true', Bool.not_eq_false', Bool.or_eq_false_iff, Bool.not_not, decide_eq_false_iff_not]); (try intro hh); (repeat' apply And.intro) <;> (first | omega | (simp only [inR]; omega) | assumption | exact ⟨by omega, by omega⟩ | exact hh.1 | exact hh.2 | exact hh.2.1 | exact hh.2.2 | exact hh.1.1 | exact hh.1.2 | (intro hq; exact ⟨hh, hq⟩) | (intro hq; exact ⟨hh.1, hq⟩) | (simp_all; done)))))
        refine ⟨(i + 1, _), (by (try simp only [hnt, hnp]); rfl), ⟨by dsimp only; omega, by dsimp only; omega, ?_⟩, by dsimp only; omega⟩
        dsimp only
        rw [← hI, hst (by omega), if_neg (by omega), if_pos (by simp_all)]
  · try simp only [decide_eq_true_eq, decide_eq_false_iff_not, ne_eq, Decidable.not_not, Bool.not_eq_true', Bool.not_eq_false', Bool.or_eq_true, Bool.and_eq_true, Bool.or_eq_false_iff, Bool.and_eq_false_iff] at hc8
    refine W_exit ?_
    simp only [thenQ, blockQ, loopQ, reduceIte, Nat.reduceEqDiff]
    refine hK3 _ ?_
    clear hK3
    refine W_seq (fun K19 hK19 => ?_)
    refine W_region hT hG [] [8, 9] ?_
    rw [hnt]
    simp only [baseS, eq_self, implies_true, if_true, if_false, reduceIte, Nat.reduceBEq, Nat.reduceEqDiff, Nat.reduceLT, Nat.reduceAdd, reduceCtorEq, tyInt, tdInt, tyInts, tdInts, tyHull, tdHull, tyBoxes, tdBoxes, c_impl_PlanEmpty, c_impl_PlanPut, decide_false, room, Nat.reduceLeDiff, Nat.zero_le, storeAV, rowQ, ownInts, FT.of, FT.setf, elems, appAV_I, appI, srcI, ownI, anyI, sameR, appAV_P, appP, srcP, ownP, anyP]
    repeat (refine And.intro ?_ ?_; focus (first | exact ordP (by kernel_rfl) | with_reducible exact rfl | assumption | trivial | (simp only [inR]; omega) | omega | exact ⟨by omega, by omega⟩ | exact ⟨by omega, by omega, by omega⟩ | exact ⟨by omega, by omega⟩ | ((try simp only [decide_eq_true_eq, Bool.and_eq_true, ne_eq, decide_not, Bool.not_eq_true', Bool.not_eq_false', Bool.or_eq_false_iff, Bool.not_not, decide_eq_false_iff_not]); (try intro hh); (repeat' apply And.intro) <;> (first | omega | (simp only [inR]; omega) | assumption | exact ⟨by omega, by omega⟩ | exact hh.1 | exact hh.2 | exact hh.2.1 | exact hh.2.2 | exact hh.1.1 | exact hh.1.2 | (intro hq; exact ⟨hh, hq⟩) | (intro hq; exact ⟨hh.1, hq⟩) | (simp_all; done)))))
    refine hK19 _ ?_
    clear hK19
    refine W_re [(8, .own 3 .i64), (9, .as)] (by (try simp only [hnt, hnp]); rfl) ?_
    refine W_ret ?_
    simp only [thenQ, blockQ, loopQ, retQ, reduceIte, Nat.reduceEqDiff]
    refine ret1sb 8 rfl rfl rfl ?_ ?_
    all_goals (
      first | (rw [← hI, hst (by omega), if_pos (by omega)]; done) | (rw [← hI, hst (by omega), if_neg (by omega), if_neg (by simp_all)]; done) | (rw [← hI, hend (by omega)]; done) | (simp_all; done))

end Go.Proofs.Ytpiaeckkjdcifaa
