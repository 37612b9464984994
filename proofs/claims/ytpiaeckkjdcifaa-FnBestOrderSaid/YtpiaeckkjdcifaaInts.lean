/- Walks over slices of integers and rows of them. No condition. -/
import Derived.Test.YtpiaeckkjdcifaaWalk
namespace Go.Proofs.Ytpiaeckkjdcifaa
open Go
set_option linter.unusedVariables false
set_option linter.unusedSimpArgs false

theorem eq_fin1 {α : Type} [DecidableEq α] {a b : List α} (h : ¬ (a.length : Int) = b.length) : false = decide (a = b) := by
  symm; rw [decide_eq_false_iff_not]; intro e; subst e; exact h rfl
theorem eq_fin2 {α : Type} [DecidableEq α] {a b : List α} {i : Int} {d : α} (h : ¬ a.getD i.toNat d = b.getD i.toNat d) : false = decide (a = b) := by
  symm; rw [decide_eq_false_iff_not]; intro e; subst e; exact h rfl
theorem eq_fin3 {α : Type} [DecidableEq α] {a b : List α} {i : Int} (hl : (a.length : Int) = b.length) (h1 : i ≤ a.length) (h : a.take i.toNat = b.take i.toNat) (h2 : ¬ i < a.length) : true = decide (a = b) := by
  symm; rw [decide_eq_true_eq]
  have e : i.toNat = a.length := by omega
  rw [e, List.take_length] at h
  rw [h, List.take_of_length_le (by omega)]
theorem take_step {α : Type} {a b : List α} {d : α} (i : Int) (h0 : 0 ≤ i) (h1 : i ≤ a.length) (h : a.take i.toNat = b.take i.toNat) (h2 : i < a.length) (hl : (a.length : Int) = b.length) (h3 : a.getD i.toNat d = b.getD i.toNat d) : a.take (i + 1).toNat = b.take (i + 1).toNat := by
  have e : (i + 1).toNat = i.toNat + 1 := by omega
  rw [e, List.take_add_one, List.take_add_one, h]
  have ha : i.toNat < a.length := by omega
  have hb : i.toNat < b.length := by omega
  simp only [List.getD_eq_getElem?_getD, List.getElem?_eq_getElem ha, List.getElem?_eq_getElem hb, Option.getD_some] at h3 ⊢
  rw [h3]
theorem row_le {a : List (List Int)} {B : Nat} (h : ∀ xs ∈ a, xs.length ≤ B) (i : Nat) : (a.getD i []).length ≤ B := by
  rw [List.getD_eq_getElem?_getD]
  cases hx : a[i]? with
  | none => simp
  | some xs => exact h xs (List.mem_of_getElem? hx)
/-- A copy, as it is made. -/
theorem copy_step {α : Type} {a l : List α} {d : α} {i : Int} (h0 : 0 ≤ i) (h : l = a.take i.toNat ++ List.replicate (a.length - i.toNat) d) (h2 : i < a.length) : l.set i.toNat (a.getD i.toNat d) = a.take (i + 1).toNat ++ List.replicate (a.length - (i + 1).toNat) d := by
  have e : (i + 1).toNat = i.toNat + 1 := by omega
  have ha : i.toNat < a.length := by omega
  subst h
  rw [e, List.take_add_one, List.getElem?_eq_getElem ha, List.getD_eq_getElem?_getD, List.getElem?_eq_getElem ha, List.set_append_right _ _ (by simp; omega)]
  have e2 : a.length - i.toNat = (a.length - (i.toNat + 1)) + 1 := by omega
  have e3 : i.toNat - (a.take i.toNat).length = 0 := by simp; omega
  rw [e2, List.replicate_succ, e3]
  simp only [List.set_cons_zero, Option.toList_some, Option.getD_some, List.append_assoc, List.singleton_append, List.cons_append, List.nil_append]
theorem copy_end {α : Type} {a l : List α} {d : α} {i : Int} (h1 : i ≤ a.length) (h : l = a.take i.toNat ++ List.replicate (a.length - i.toNat) d) (h2 : ¬ i < a.length) : l = a := by
  have e : i.toNat = a.length := by omega
  rw [h, e]; simp
theorem copy_len {α : Type} {a l : List α} {d : α} {i : Int} (h0 : 0 ≤ i) (h1 : i ≤ a.length) (h : l = a.take i.toNat ++ List.replicate (a.length - i.toNat) d) : l.length = a.length := by
  rw [h]; simp; omega
/-- The room that is left, row by row. -/
def szR : List (List Int) → Int → Int
  | [], l => l
  | xs :: r, l => if l - xs.length < 0 then -1 else szR r (l - xs.length)
def szSS (a : List (List Int)) (left : Int) : Int := if left - a.length < 0 then -1 else szR a (left - a.length)
theorem szR_step {a : List (List Int)} {i l : Int} (h0 : 0 ≤ i) (h : i < a.length) : szR (a.drop i.toNat) l = if l - (a.getD i.toNat []).length < 0 then -1 else szR (a.drop (i + 1).toNat) (l - (a.getD i.toNat []).length) := by
  have ha : i.toNat < a.length := by omega
  have e : (i + 1).toNat = i.toNat + 1 := by omega
  rw [List.drop_eq_getElem_cons ha, szR, e, List.getD_eq_getElem?_getD, List.getElem?_eq_getElem ha]
  rfl
theorem szR_end {a : List (List Int)} {i l : Int} (h : ¬ i < a.length) : szR (a.drop i.toNat) l = l := by
  rw [List.drop_eq_nil_of_le (by omega)]; rfl
theorem szR_le : ∀ (a : List (List Int)) (l : Int), 0 ≤ szR a l → (∀ xs ∈ a, (xs.length : Int) ≤ l) ∧ szR a l ≤ l
  | [], l, h => ⟨by simp, Int.le_refl _⟩
  | xs :: a, l, h => by
    simp only [szR] at h ⊢
    split at h
    · omega
    · rename_i hn
      rw [if_neg hn]
      obtain ⟨h1, h2⟩ := szR_le a _ h
      refine ⟨?_, by omega⟩
      intro ys hy
      rcases List.mem_cons.1 hy with rfl | hy
      · omega
      · have := h1 ys hy; omega
theorem szSS_le {a : List (List Int)} {l : Int} (h : ¬ szSS a l < 0) : (a.length : Int) ≤ l ∧ ∀ xs ∈ a, (xs.length : Int) ≤ l := by
  simp only [szSS] at h
  split at h
  · omega
  · obtain ⟨h1, h2⟩ := szR_le a (l - a.length) (by omega)
    exact ⟨by omega, fun xs hx => by have := h1 xs hx; omega⟩
theorem sz_next {a : List (List Int)} {i z l : Int} (h0 : 0 ≤ i) (hz : z ≤ 9223372036854775807) (hI : szR (a.drop i.toNat) z = szSS a l) (h1 : i < a.length) (h2 : ¬ (if z - (a.getD i.toNat []).length < 0 then -1 else z - (a.getD i.toNat []).length) < 0) :
    0 ≤ i + 1 ∧ i + 1 ≤ a.length ∧ 0 ≤ (if z - (a.getD i.toNat []).length < 0 then -1 else z - (a.getD i.toNat []).length) ∧ (if z - (a.getD i.toNat []).length < 0 then -1 else z - (a.getD i.toNat []).length) ≤ 9223372036854775807 ∧ szR (a.drop (i + 1).toNat) (if z - (a.getD i.toNat []).length < 0 then -1 else z - (a.getD i.toNat []).length) = szSS a l := by
  rw [szR_step h0 h1] at hI
  split at h2
  · omega
  · rename_i hn
    rw [if_neg hn] at hI ⊢
    exact ⟨by omega, by omega, by omega, by omega, hI⟩
theorem sz_f1 {a : List (List Int)} {l : Int} (h : l - a.length < 0) : -1 = szSS a l := by rw [szSS, if_pos h]
theorem sz_f2 {a : List (List Int)} {i z l : Int} (h0 : 0 ≤ i) (hI : szR (a.drop i.toNat) z = szSS a l) (h1 : i < a.length) (h2 : (if z - (a.getD i.toNat []).length < 0 then -1 else z - (a.getD i.toNat []).length) < 0) : -1 = szSS a l := by
  rw [szR_step h0 h1] at hI
  split at h2
  · rename_i hn; rw [if_pos hn] at hI; exact hI
  · omega
theorem sz_f3 {a : List (List Int)} {i z l : Int} (hI : szR (a.drop i.toNat) z = szSS a l) (h1 : ¬ i < a.length) : z = szSS a l := by rw [szR_end h1] at hI; exact hI

def c_laws_sameInts : Ctr where
  modes := [.v (.r .i64), .v (.r .i64)]
  al := false
  run := fun xs os => match xs, os with
    | [.rs .i64 a, .rs .i64 b], [] => some ⟨a.length ≤ 9223372036854775807, .bool (decide (a = b)), [], []⟩
    | _, _ => none
theorem m_laws_sameInts : Meets Try.prog 15 c_laws_sameInts := by
  refine meets_of (T := tyT) tyOK Try.func15 (by rfl) rfl (by decide) ?_
  intro args owns R hrun hpre
  simp only [c_laws_sameInts] at hrun
  split at hrun
  case h_2 => cases hrun
  rename_i a b
  cases hrun
  try dsimp only at hpre
  refine ⟨_, rfl, fun E hP hnt hnp => ?_⟩
  replace hnt : E.nt = 26 := hnt
  replace hnp : E.np = 2 := hnp
  have hT : ∀ t d, tyT t = some d → TyOK E.P t d := hP ▸ tyOK
  have hG : ∀ f C, Γof [] f = some C → Meets E.P f C := hΓof (by rw [hP]; exact trivial)
  try simp only [show Try.f15.ntmps = 26 from rfl]
  refine W_seq (fun K1 hK1 => ?_)
  refine W_region hT hG [] [0, 1] ?_
  rw [hnt]
  simp only [baseS, eq_self, implies_true, if_true, if_false, reduceIte, Nat.reduceBEq, Nat.reduceEqDiff, Nat.reduceLT, Nat.reduceAdd, reduceCtorEq, tyInt, tdInt, tyInts, tdInts]
  repeat (refine And.intro ?_ ?_; focus (first | exact ordP (by kernel_rfl) | with_reducible exact rfl | assumption | trivial | (simp only [inR]; omega) | omega | (intro hh; (try obtain ⟨hh1, hh2⟩ := hh); (repeat' apply And.intro) <;> first | assumption | (simp only [inR]; omega) | omega | (intros; (repeat' apply And.intro) <;> first | assumption | (simp only [inR]; omega) | omega)) | (intros; (repeat' apply And.intro) <;> first | assumption | (simp only [inR]; omega) | omega | (simp_all; done) | (simp_all [inR]; omega))))
  refine hK1 _ ?_
  clear hK1
  refine W_seq (fun K2 hK2 => ?_)
  refine W_seq (fun K3 hK3 => ?_)
  refine W_region hT hG [] [0, 1, 10] ?_
  rw [hnt]
  simp only [baseS, eq_self, implies_true, if_true, if_false, reduceIte, Nat.reduceBEq, Nat.reduceEqDiff, Nat.reduceLT, Nat.reduceAdd, reduceCtorEq, tyInt, tdInt, tyInts, tdInts]
  repeat (refine And.intro ?_ ?_; focus (first | exact ordP (by kernel_rfl) | with_reducible exact rfl | assumption | trivial | (simp only [inR]; omega) | omega | (intro hh; (try obtain ⟨hh1, hh2⟩ := hh); (repeat' apply And.intro) <;> first | assumption | (simp only [inR]; omega) | omega | (intros; (repeat' apply And.intro) <;> first | assumption | (simp only [inR]; omega) | omega)) | (intros; (repeat' apply And.intro) <;> first | assumption | (simp only [inR]; omega) | omega | (simp_all; done) | (simp_all [inR]; omega))))
  refine hK3 _ ?_
  clear hK3
  refine W_cond (b := _) rfl (fun hc4 => ?_) (fun hc4 => ?_)
  · try simp only [decide_eq_true_eq, decide_eq_false_iff_not, ne_eq, Decidable.not_not, Bool.not_eq_true', Bool.not_eq_false', Bool.or_eq_true, Bool.and_eq_true, Bool.or_eq_false_iff, Bool.and_eq_false_iff] at hc4
    refine W_seq (fun K5 hK5 => ?_)
    refine W_region hT hG [] [4] ?_
    rw [hnt]
    simp only [baseS, eq_self, implies_true, if_true, if_false, reduceIte, Nat.reduceBEq, Nat.reduceEqDiff, Nat.reduceLT, Nat.reduceAdd, reduceCtorEq, tyInt, tdInt, tyInts, tdInts]
    repeat (refine And.intro ?_ ?_; focus (first | exact ordP (by kernel_rfl) | with_reducible exact rfl | assumption | trivial | (simp only [inR]; omega) | omega | (intro hh; (try obtain ⟨hh1, hh2⟩ := hh); (repeat' apply And.intro) <;> first | assumption | (simp only [inR]; omega) | omega | (intros; (repeat' apply And.intro) <;> first | assumption | (simp only [inR]; omega) | omega)) | (intros; (repeat' apply And.intro) <;> first | assumption | (simp only [inR]; omega) | omega | (simp_all; done) | (simp_all [inR]; omega))))
    refine hK5 _ ?_
    clear hK5
    refine W_ret ?_
    simp only [thenQ, blockQ, loopQ, retQ, reduceIte, Nat.reduceEqDiff]
    refine ret0 ?_ rfl rfl (.inr rfl) rfl
    simp only [show Try.f15.results.toList = [ResultVar.tmp 4] from rfl, resAV, resL, look, Nat.reduceEqDiff, reduceIte, tyHull, tdHull, applyUps, noH, isStr, List.length_cons, List.length_nil, Nat.reduceAdd, and_self]
    all_goals (
      refine congrArg (fun x => some (AV.bool x)) ?_
      first | exact eq_fin1 hc4 | exact eq_fin2 hc4 | exact eq_fin3 hc4 hi1 hI hc4)
  · try simp only [decide_eq_true_eq, decide_eq_false_iff_not, ne_eq, Decidable.not_not, Bool.not_eq_true', Bool.not_eq_false', Bool.or_eq_true, Bool.and_eq_true, Bool.or_eq_false_iff, Bool.and_eq_false_iff] at hc4
    refine W_skip ?_
    simp only [thenQ, blockQ, loopQ, reduceIte, Nat.reduceEqDiff]
    refine hK2 _ ?_
    clear hK2
    refine W_seq (fun K6 hK6 => ?_)
    refine W_seq (fun K7 hK7 => ?_)
    refine W_region hT hG [] [0, 1, 5] ?_
    rw [hnt]
    simp only [baseS, eq_self, implies_true, if_true, if_false, reduceIte, Nat.reduceBEq, Nat.reduceEqDiff, Nat.reduceLT, Nat.reduceAdd, reduceCtorEq, tyInt, tdInt, tyInts, tdInts]
    repeat (refine And.intro ?_ ?_; focus (first | exact ordP (by kernel_rfl) | with_reducible exact rfl | assumption | trivial | (simp only [inR]; omega) | omega | (intro hh; (try obtain ⟨hh1, hh2⟩ := hh); (repeat' apply And.intro) <;> first | assumption | (simp only [inR]; omega) | omega | (intros; (repeat' apply And.intro) <;> first | assumption | (simp only [inR]; omega) | omega)) | (intros; (repeat' apply And.intro) <;> first | assumption | (simp only [inR]; omega) | omega | (simp_all; done) | (simp_all [inR]; omega))))
    refine hK7 _ ?_
    clear hK7
    refine W_block ?_
    refine W_loop (α := Int) [(0, .as), (1, .as), (5, .as)] (fun i => ⟨[(0, .rs .i64 a), (1, .rs .i64 b), (5, .int i)], [], 26⟩) (fun i => 0 ≤ i ∧ i ≤ a.length ∧ a.take i.toNat = b.take i.toNat) (fun i => (a.length - i).toNat) 0 ?_ ?_ ?_
    · (try simp only [hnt, hnp]); rfl
    · exact ⟨by omega, by omega, by simp⟩
    rintro i ⟨hi0, hi1, hI⟩
    refine W_seq (fun K9 hK9 => ?_)
    refine W_seq (fun K10 hK10 => ?_)
    refine W_region hT hG [] [0, 1, 5, 14] ?_
    rw [hnt]
    simp only [baseS, eq_self, implies_true, if_true, if_false, reduceIte, Nat.reduceBEq, Nat.reduceEqDiff, Nat.reduceLT, Nat.reduceAdd, reduceCtorEq, tyInt, tdInt, tyInts, tdInts]
    repeat (refine And.intro ?_ ?_; focus (first | exact ordP (by kernel_rfl) | with_reducible exact rfl | assumption | trivial | (simp only [inR]; omega) | omega | (intro hh; (try obtain ⟨hh1, hh2⟩ := hh); (repeat' apply And.intro) <;> first | assumption | (simp only [inR]; omega) | omega | (intros; (repeat' apply And.intro) <;> first | assumption | (simp only [inR]; omega) | omega)) | (intros; (repeat' apply And.intro) <;> first | assumption | (simp only [inR]; omega) | omega | (simp_all; done) | (simp_all [inR]; omega))))
    refine hK10 _ ?_
    clear hK10
    refine W_cond (b := _) rfl (fun hc11 => ?_) (fun hc11 => ?_)
    · try simp only [decide_eq_true_eq, decide_eq_false_iff_not, ne_eq, Decidable.not_not, Bool.not_eq_true', Bool.not_eq_false', Bool.or_eq_true, Bool.and_eq_true, Bool.or_eq_false_iff, Bool.and_eq_false_iff] at hc11
      refine W_skip ?_
      simp only [thenQ, blockQ, loopQ, reduceIte, Nat.reduceEqDiff]
      refine hK9 _ ?_
      clear hK9
      refine W_seq (fun K12 hK12 => ?_)
      refine W_block ?_
      refine W_seq (fun K13 hK13 => ?_)
      refine W_region_draw hT hG (by rw [hP]; exact draws_ok) [] [0, 1, 5, 25] ?_
      rw [hnt]
      simp only [baseS, eq_self, implies_true, if_true, if_false, reduceIte, Nat.reduceBEq, Nat.reduceEqDiff, Nat.reduceLT, Nat.reduceAdd, reduceCtorEq, tyInt, tdInt, tyInts, tdInts]
      repeat (refine And.intro ?_ ?_; focus (first | exact ordP (by kernel_rfl) | with_reducible exact rfl | assumption | trivial | (simp only [inR]; omega) | omega | (intro hh; (try obtain ⟨hh1, hh2⟩ := hh); (repeat' apply And.intro) <;> first | assumption | (simp only [inR]; omega) | omega | (intros; (repeat' apply And.intro) <;> first | assumption | (simp only [inR]; omega) | omega)) | (intros; (repeat' apply And.intro) <;> first | assumption | (simp only [inR]; omega) | omega | (simp_all; done) | (simp_all [inR]; omega))))
      refine hK13 _ ?_
      clear hK13
      refine W_cond (b := _) rfl (fun hc14 => ?_) (fun hc14 => ?_)
      · try simp only [decide_eq_true_eq, decide_eq_false_iff_not, ne_eq, Decidable.not_not, Bool.not_eq_true', Bool.not_eq_false', Bool.or_eq_true, Bool.and_eq_true, Bool.or_eq_false_iff, Bool.and_eq_false_iff] at hc14
        refine W_seq (fun K15 hK15 => ?_)
        refine W_region hT hG [] [4] ?_
        rw [hnt]
        simp only [baseS, eq_self, implies_true, if_true, if_false, reduceIte, Nat.reduceBEq, Nat.reduceEqDiff, Nat.reduceLT, Nat.reduceAdd, reduceCtorEq, tyInt, tdInt, tyInts, tdInts]
        repeat (refine And.intro ?_ ?_; focus (first | exact ordP (by kernel_rfl) | with_reducible exact rfl | assumption | trivial | (simp only [inR]; omega) | omega | (intro hh; (try obtain ⟨hh1, hh2⟩ := hh); (repeat' apply And.intro) <;> first | assumption | (simp only [inR]; omega) | omega | (intros; (repeat' apply And.intro) <;> first | assumption | (simp only [inR]; omega) | omega)) | (intros; (repeat' apply And.intro) <;> first | assumption | (simp only [inR]; omega) | omega | (simp_all; done) | (simp_all [inR]; omega))))
        refine hK15 _ ?_
        clear hK15
        refine W_ret ?_
        simp only [thenQ, blockQ, loopQ, retQ, reduceIte, Nat.reduceEqDiff]
        refine ret0 ?_ rfl rfl (.inr rfl) rfl
        simp only [show Try.f15.results.toList = [ResultVar.tmp 4] from rfl, resAV, resL, look, Nat.reduceEqDiff, reduceIte, tyHull, tdHull, applyUps, noH, isStr, List.length_cons, List.length_nil, Nat.reduceAdd, and_self]
        all_goals (
          refine congrArg (fun x => some (AV.bool x)) ?_
          first | exact eq_fin1 hc14 | exact eq_fin2 hc14 | exact eq_fin3 hc4 hi1 hI hc14)
      · try simp only [decide_eq_true_eq, decide_eq_false_iff_not, ne_eq, Decidable.not_not, Bool.not_eq_true', Bool.not_eq_false', Bool.or_eq_true, Bool.and_eq_true, Bool.or_eq_false_iff, Bool.and_eq_false_iff] at hc14
        refine W_skip ?_
        simp only [thenQ, blockQ, loopQ, reduceIte, Nat.reduceEqDiff]
        refine hK12 _ ?_
        clear hK12
        refine W_region hT hG [] [0, 1, 5] ?_
        rw [hnt]
        simp only [baseS, eq_self, implies_true, if_true, if_false, reduceIte, Nat.reduceBEq, Nat.reduceEqDiff, Nat.reduceLT, Nat.reduceAdd, reduceCtorEq, tyInt, tdInt, tyInts, tdInts]
        repeat (refine And.intro ?_ ?_; focus (first | exact ordP (by kernel_rfl) | with_reducible exact rfl | assumption | trivial | (simp only [inR]; omega) | omega | (intro hh; (try obtain ⟨hh1, hh2⟩ := hh); (repeat' apply And.intro) <;> first | assumption | (simp only [inR]; omega) | omega | (intros; (repeat' apply And.intro) <;> first | assumption | (simp only [inR]; omega) | omega)) | (intros; (repeat' apply And.intro) <;> first | assumption | (simp only [inR]; omega) | omega | (simp_all; done) | (simp_all [inR]; omega))))
        refine ⟨i+1, (by (try simp only [hnt, hnp]); rfl), ⟨by omega, by omega, take_step (d := 0) i hi0 hi1 hI hc11 hc4 hc14⟩, by dsimp only; omega⟩
    · try simp only [decide_eq_true_eq, decide_eq_false_iff_not, ne_eq, Decidable.not_not, Bool.not_eq_true', Bool.not_eq_false', Bool.or_eq_true, Bool.and_eq_true, Bool.or_eq_false_iff, Bool.and_eq_false_iff] at hc11
      refine W_exit ?_
      simp only [thenQ, blockQ, loopQ, reduceIte, Nat.reduceEqDiff]
      refine hK6 _ ?_
      clear hK6
      refine W_seq (fun K16 hK16 => ?_)
      refine W_region hT hG [] [4] ?_
      rw [hnt]
      simp only [baseS, eq_self, implies_true, if_true, if_false, reduceIte, Nat.reduceBEq, Nat.reduceEqDiff, Nat.reduceLT, Nat.reduceAdd, reduceCtorEq, tyInt, tdInt, tyInts, tdInts]
      repeat (refine And.intro ?_ ?_; focus (first | exact ordP (by kernel_rfl) | with_reducible exact rfl | assumption | trivial | (simp only [inR]; omega) | omega | (intro hh; (try obtain ⟨hh1, hh2⟩ := hh); (repeat' apply And.intro) <;> first | assumption | (simp only [inR]; omega) | omega | (intros; (repeat' apply And.intro) <;> first | assumption | (simp only [inR]; omega) | omega)) | (intros; (repeat' apply And.intro) <;> first | assumption | (simp only [inR]; omega) | omega | (simp_all; done) | (simp_all [inR]; omega))))
      refine hK16 _ ?_
      clear hK16
      refine W_ret ?_
      simp only [thenQ, blockQ, loopQ, retQ, reduceIte, Nat.reduceEqDiff]
      refine ret0 ?_ rfl rfl (.inr rfl) rfl
      simp only [show Try.f15.results.toList = [ResultVar.tmp 4] from rfl, resAV, resL, look, Nat.reduceEqDiff, reduceIte, tyHull, tdHull, applyUps, noH, isStr, List.length_cons, List.length_nil, Nat.reduceAdd, and_self]
      all_goals (
        refine congrArg (fun x => some (AV.bool x)) ?_
        first | exact eq_fin1 hc11 | exact eq_fin2 hc11 | exact eq_fin3 hc4 hi1 hI hc11)

end Go.Proofs.Ytpiaeckkjdcifaa
