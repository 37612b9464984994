/- Walks over pairs of boxes that are too near. No condition. -/
import Derived.Test.YtjkghldkemoddaaOkText
import Derived.Test.YtjkghldkemoddaaNeed
namespace Go.Proofs.Ytjkghldkemoddaa
open Go
set_option linter.unusedVariables false
set_option linter.unusedSimpArgs false

theorem oneI (k : IntKind) (n : Int) : oneV (Value.int k n) = true := rfl
/-- Two slots whose boxes are too near. -/
def nearB (r t : Int) (bs : List BoxD) (p : List Int) (a q : Nat) : Bool := (decide (a < q) && decide (p.getD a 0 ≠ 0)) && (decide (p.getD q 0 ≠ 0) && decide (apD r t a q < need (cAt bs (p.getD a 0)) (cAt bs (p.getD q 0))))
def rowP (r t : Int) (bs : List BoxD) (p : List Int) (a : Nat) : Nat → List PairD
  | 0 => []
  | n + 1 => if nearB r t bs p a n = true then rowP r t bs p a n ++ [⟨(a : Int), (n : Int)⟩] else rowP r t bs p a n
def catP (r t : Int) (bs : List BoxD) (p : List Int) : Nat → List PairD
  | 0 => []
  | n + 1 => catP r t bs p n ++ rowP r t bs p n p.length
def catL (r t : Int) (bs : List BoxD) (p : List Int) (l : List Int) : List PairD := l.flatMap fun a => rowP r t bs p a.toNat p.length
theorem rowP_low (r t : Int) (bs : List BoxD) (p : List Int) (a : Nat) : ∀ n, n ≤ a + 1 → rowP r t bs p a n = []
  | 0, _ => rfl
  | n + 1, h => by
    rw [rowP, if_neg, rowP_low r t bs p a n (by omega)]
    rw [nearB, decide_eq_false (by omega : ¬ a < n)]; simp
theorem rowP_len (r t : Int) (bs : List BoxD) (p : List Int) (a : Nat) : ∀ n, (rowP r t bs p a n).length ≤ n
  | 0 => by simp [rowP]
  | n + 1 => by
    have := rowP_len r t bs p a n
    rw [rowP]; split
    · rw [List.length_append, List.length_singleton]; omega
    · omega
theorem rowP_zero (r t : Int) (bs : List BoxD) (p : List Int) (a : Nat) (h : p.getD a 0 = 0) : ∀ n, rowP r t bs p a n = []
  | 0 => rfl
  | n + 1 => by
    have hf : decide (p.getD a 0 ≠ 0) = false := decide_eq_false (fun hn => hn h)
    rw [rowP, if_neg, rowP_zero r t bs p a h n]
    rw [nearB, hf]; simp
theorem rowP_step {r t : Int} {bs : List BoxD} {p : List Int} {a : Nat} {q : Int} (h : 0 ≤ q) : rowP r t bs p a (q + 1).toNat = if nearB r t bs p a q.toNat = true then rowP r t bs p a q.toNat ++ [⟨(a : Int), q⟩] else rowP r t bs p a q.toNat := by
  have e : (q + 1).toNat = q.toNat + 1 := by omega
  rw [e, rowP, Int.toNat_of_nonneg h]
theorem catP_len (r t : Int) (bs : List BoxD) (p : List Int) : ∀ n, (catP r t bs p n).length ≤ n * p.length
  | 0 => by simp [catP]
  | n + 1 => by
    have h1 := catP_len r t bs p n
    have h2 := rowP_len r t bs p n p.length
    rw [catP, List.length_append, Nat.succ_mul]; omega
theorem catL_app (r t : Int) (bs : List BoxD) (p l m : List Int) : catL r t bs p (l ++ m) = catL r t bs p l ++ catL r t bs p m := by simp [catL]
theorem catL_one (r t : Int) (bs : List BoxD) (p : List Int) (a : Int) : catL r t bs p [a] = rowP r t bs p a.toNat p.length := by simp [catL]
theorem catL_len (r t : Int) (bs : List BoxD) (p : List Int) : ∀ l : List Int, (catL r t bs p l).length ≤ l.length * p.length
  | [] => by simp [catL]
  | a :: l => by
    have h1 := catL_len r t bs p l
    have h2 := rowP_len r t bs p a.toNat p.length
    have e : catL r t bs p (a :: l) = rowP r t bs p a.toNat p.length ++ catL r t bs p l := by simp [catL]
    rw [e, List.length_append, List.length_cons, Nat.succ_mul]; omega
theorem cat_same (r t : Int) (bs : List BoxD) (p : List Int) : ∀ n, catL r t bs p (selTo (fullP p) n) = catP r t bs p n
  | 0 => by simp [selTo, catL, catP]
  | n + 1 => by
    rw [selTo, catP]
    by_cases h : p.getD n 0 ≠ 0
    · rw [if_pos (show fullP p n = true from decide_eq_true h), catL_app, cat_same r t bs p n, catL_one]
      congr 1
    · have h0 : p.getD n 0 = 0 := Classical.not_not.1 h
      rw [if_neg (by rw [fullP, decide_eq_false h]; simp), cat_same r t bs p n, rowP_zero r t bs p n h0, List.append_nil]
theorem catL_step {r t : Int} {bs : List BoxD} {p l : List Int} {j : Int} (h0 : 0 ≤ j) (h : j < l.length) : catL r t bs p (l.take (j + 1).toNat) = catL r t bs p (l.take j.toNat) ++ rowP r t bs p (l.getD j.toNat 0).toNat p.length := by
  have ha : j.toNat < l.length := by omega
  have e : (j + 1).toNat = j.toNat + 1 := by omega
  have e2 : l.getD j.toNat 0 = l[j.toNat] := by rw [List.getD_eq_getElem?_getD, List.getElem?_eq_getElem ha]; rfl
  rw [e, List.take_add_one, List.getElem?_eq_getElem ha, Option.toList_some, catL_app, catL_one, e2]
theorem fullS_get {p : List Int} {j : Int} (h0 : 0 ≤ j) (h : j < (fullS p).length) : 0 ≤ (fullS p).getD j.toNat 0 ∧ (fullS p).getD j.toNat 0 < p.length ∧ p.getD ((fullS p).getD j.toNat 0).toNat 0 ≠ 0 := by
  have ha : j.toNat < (fullS p).length := by omega
  have e2 : (fullS p).getD j.toNat 0 = (fullS p)[j.toNat] := by rw [List.getD_eq_getElem?_getD, List.getElem?_eq_getElem ha]; rfl
  have hm := List.getElem_mem ha
  rw [← e2, fullS, selTo_mem] at hm
  obtain ⟨k, h1, h2, h3⟩ := hm
  have h4 : p.getD k 0 ≠ 0 := of_decide_eq_true h3
  have e3 : ((fullS p).getD j.toNat 0).toNat = k := by
    have : (fullS p).getD j.toNat 0 = (k : Int) := h2.symm
    rw [this]; rfl
  rw [e3]
  have : (fullS p).getD j.toNat 0 = (k : Int) := h2.symm
  exact ⟨by omega, by omega, h4⟩
theorem fullS_len (p : List Int) : (fullS p).length ≤ p.length := selTo_len _ _
theorem need_box (a c : Int) : -1 ≤ need a c ∧ need a c ≤ 3 := by
  unfold need
  repeat (first | omega | split)
theorem need_z1 {c : Int} (h : 0 ≤ c ∧ c ≤ 3) : need 0 c = 0 := by
  unfold need; rw [if_pos (by omega), if_pos (.inl rfl)]
theorem need_z2 {c : Int} (h : 0 ≤ c ∧ c ≤ 3) : need c 0 = 0 := by
  unfold need; rw [if_pos (by omega), if_pos (.inr rfl)]
theorem apD_box (r t a c : Int) : 0 ≤ apD r t a c ∧ apD r t a c ≤ 3 := by
  unfold apD
  repeat (first | omega | split)
/-- The class of the box with an id, and 0 for none. -/
def c0 (bs : List BoxD) (n : Int) : Int := if n = 0 then 0 else cAt bs n
theorem c0_box {bs : List BoxD} {n : Int} (h : boxesB bs = true) (hn : inBx bs n) : 0 ≤ c0 bs n ∧ c0 bs n ≤ 3 := by
  unfold c0; split
  · omega
  · rename_i h0; exact cAt_le h (hn.resolve_left h0)
theorem near_i {r t : Int} {bs : List BoxD} {p : List Int} {a q : Int} (ha : 0 ≤ a) (hq : 0 ≤ q) (h1 : a < q) (h2 : p.getD a.toNat 0 ≠ 0) : nearB r t bs p a.toNat q.toNat = (decide (p.getD q.toNat 0 ≠ 0) && decide (apD r t a q < need (cAt bs (p.getD a.toNat 0)) (cAt bs (p.getD q.toNat 0)))) := by
  rw [nearB, decide_eq_true (by omega : a.toNat < q.toNat), decide_eq_true h2, Int.toNat_of_nonneg ha, Int.toNat_of_nonneg hq, Bool.true_and, Bool.true_and]
theorem near_s {r t : Int} {bs : List BoxD} {p : List Int} {a q : Int} (hb : boxesB bs = true) (hin : ∀ k, inBx bs (p.getD k 0)) (ha : 0 ≤ a) (hq : 0 ≤ q) (h1 : a < q) : nearB r t bs p a.toNat q.toNat = decide (apD r t a q < need (c0 bs (p.getD a.toNat 0)) (c0 bs (p.getD q.toNat 0))) := by
  have hd := apD_box r t a q
  have k1 := c0_box hb (hin a.toNat)
  have k2 := c0_box hb (hin q.toNat)
  rw [nearB, decide_eq_true (by omega : a.toNat < q.toNat), Int.toNat_of_nonneg ha, Int.toNat_of_nonneg hq, Bool.true_and]
  by_cases h2 : p.getD a.toNat 0 = 0
  · have e : c0 bs (p.getD a.toNat 0) = 0 := by rw [c0, if_pos h2]
    have hf : decide (p.getD a.toNat 0 ≠ 0) = false := decide_eq_false (fun hn => hn h2)
    rw [hf, Bool.false_and, e, need_z1 k2, decide_eq_false (by omega)]
  · rw [decide_eq_true h2, Bool.true_and]
    by_cases h3 : p.getD q.toNat 0 = 0
    · have e : c0 bs (p.getD q.toNat 0) = 0 := by rw [c0, if_pos h3]
      have hf : decide (p.getD q.toNat 0 ≠ 0) = false := decide_eq_false (fun hn => hn h3)
      rw [hf, Bool.false_and, e, need_z2 k1, decide_eq_false (by omega)]
    · have e1 : c0 bs (p.getD a.toNat 0) = cAt bs (p.getD a.toNat 0) := by rw [c0, if_neg h2]
      have e2 : c0 bs (p.getD q.toNat 0) = cAt bs (p.getD q.toNat 0) := by rw [c0, if_neg h3]
      rw [decide_eq_true h3, Bool.true_and, e1, e2]
def nearR (b r t : Int) (bs : List BoxD) (p : List Int) : List PairD := if planB b r t bs p = true then catP r t bs p p.length else []

def c_impl_fullSlots : Ctr where
  modes := [.v (.r .i64)]
  al := false
  run := fun xs os => match xs, os with
    | [.rs .i64 p], [] => some ⟨p.length ≤ 1099511627776 - 1, .sl 0, [.sl 3 .i64 (fullS p)], []⟩
    | _, _ => none
theorem m_impl_fullSlots : Meets Try.prog 108 c_impl_fullSlots := by
  refine meets_of (T := tyT) tyOK Try.func108 (by rfl) rfl (by decide) ?_
  intro args owns R hrun hpre
  simp only [c_impl_fullSlots] at hrun
  split at hrun
  case h_2 => cases hrun
  rename_i p
  cases hrun
  try dsimp only at hpre
  refine ⟨_, rfl, fun E hP hnt hnp => ?_⟩
  replace hnt : E.nt = 21 := hnt
  replace hnp : E.np = 1 := hnp
  have hT : ∀ t d, tyT t = some d → TyOK E.P t d := hP ▸ tyOK
  have hG : ∀ f C, Γof [] f = some C → Meets E.P f C := hΓof (by rw [hP]; exact trivial)
  try simp only [show Try.f108.ntmps = 21 from rfl]
  have hp := hpre
  refine W_seq (fun K1 hK1 => ?_)
  refine W_region hT hG [] [0] ?_
  rw [hnt]
  simp only [baseS, eq_self, implies_true, if_true, if_false, reduceIte, Nat.reduceBEq, Nat.reduceEqDiff, Nat.reduceLT, Nat.reduceAdd, reduceCtorEq, tyInt, tdInt, tyInts, tdInts, decide_false, room, Nat.reduceLeDiff, Nat.zero_le, storeAV, rowQ, ownInts, FT.of, FT.setf, elems, appAV_I, appI, srcI, ownI, anyI, sameR, appAV_P, appP, srcP, ownP, anyP]
  repeat (refine And.intro ?_ ?_; focus (first | exact ordP (by kernel_rfl) | with_reducible exact rfl | assumption | trivial | (simp only [inR]; omega) | omega | exact ⟨by omega, by omega⟩ | exact ⟨by omega, by omega, by omega⟩ | ((try simp only [decide_eq_true_eq, Bool.and_eq_true, ne_eq, decide_not, Bool.not_eq_true', Bool.not_eq_false', Bool.or_eq_false_iff, Bool.not_not, decide_eq_false_iff_not]); (try intro hh); (repeat' apply And.intro) <;> (first | omega | (simp only [inR]; omega) | assumption | exact hh.1 | exact hh.2 | exact hh.2.1 | exact hh.2.2 | exact hh.1.1 | exact hh.1.2 | (intro hq; exact ⟨hh, hq⟩) | (intro hq; exact ⟨hh.1, hq⟩) | (simp_all; done)))))
  refine hK1 _ ?_
  clear hK1
  refine W_seq (fun K2 hK2 => ?_)
  refine W_region hT hG [] [0, 3] ?_
  rw [hnt]
  simp only [baseS, eq_self, implies_true, if_true, if_false, reduceIte, Nat.reduceBEq, Nat.reduceEqDiff, Nat.reduceLT, Nat.reduceAdd, reduceCtorEq, tyInt, tdInt, tyInts, tdInts, decide_false, room, Nat.reduceLeDiff, Nat.zero_le, storeAV, rowQ, ownInts, FT.of, FT.setf, elems, appAV_I, appI, srcI, ownI, anyI, sameR, appAV_P, appP, srcP, ownP, anyP]
  repeat (refine And.intro ?_ ?_; focus (first | exact ordP (by kernel_rfl) | with_reducible exact rfl | assumption | trivial | (simp only [inR]; omega) | omega | exact ⟨by omega, by omega⟩ | exact ⟨by omega, by omega, by omega⟩ | ((try simp only [decide_eq_true_eq, Bool.and_eq_true, ne_eq, decide_not, Bool.not_eq_true', Bool.not_eq_false', Bool.or_eq_false_iff, Bool.not_not, decide_eq_false_iff_not]); (try intro hh); (repeat' apply And.intro) <;> (first | omega | (simp only [inR]; omega) | assumption | exact hh.1 | exact hh.2 | exact hh.2.1 | exact hh.2.2 | exact hh.1.1 | exact hh.1.2 | (intro hq; exact ⟨hh, hq⟩) | (intro hq; exact ⟨hh.1, hq⟩) | (simp_all; done)))))
  refine hK2 _ ?_
  clear hK2
  refine W_seq (fun K3 hK3 => ?_)
  refine W_seq (fun K4 hK4 => ?_)
  refine W_region hT hG [] [3, 6, 7, 8] ?_
  rw [hnt]
  simp only [baseS, eq_self, implies_true, if_true, if_false, reduceIte, Nat.reduceBEq, Nat.reduceEqDiff, Nat.reduceLT, Nat.reduceAdd, reduceCtorEq, tyInt, tdInt, tyInts, tdInts, decide_false, room, Nat.reduceLeDiff, Nat.zero_le, storeAV, rowQ, ownInts, FT.of, FT.setf, elems, appAV_I, appI, srcI, ownI, anyI, sameR, appAV_P, appP, srcP, ownP, anyP]
  repeat (refine And.intro ?_ ?_; focus (first | exact ordP (by kernel_rfl) | with_reducible exact rfl | assumption | trivial | (simp only [inR]; omega) | omega | exact ⟨by omega, by omega⟩ | exact ⟨by omega, by omega, by omega⟩ | ((try simp only [decide_eq_true_eq, Bool.and_eq_true, ne_eq, decide_not, Bool.not_eq_true', Bool.not_eq_false', Bool.or_eq_false_iff, Bool.not_not, decide_eq_false_iff_not]); (try intro hh); (repeat' apply And.intro) <;> (first | omega | (simp only [inR]; omega) | assumption | exact hh.1 | exact hh.2 | exact hh.2.1 | exact hh.2.2 | exact hh.1.1 | exact hh.1.2 | (intro hq; exact ⟨hh, hq⟩) | (intro hq; exact ⟨hh.1, hq⟩) | (simp_all; done)))))
  refine hK4 _ ?_
  clear hK4
  refine W_block ?_
  refine W_loop (α := Int × List Int) [(3, .own 3 .i64), (6, .as), (7, .as), (8, .as)] (fun x => ⟨[(3, .sl 3), (6, .rs .i64 p), (7, .int p.length), (8, .int x.1)], [(3, some (.sl 3 .i64 x.2))], 21⟩) (fun x => 0 ≤ x.1 ∧ x.1 ≤ p.length ∧ x.2 = selTo (fullP p) x.1.toNat) (fun x => (p.length - x.1).toNat) (0, []) ?_ ?_ ?_
  · (try simp only [hnt, hnp]); rfl
  · exact ⟨by omega, by omega, rfl⟩
  rintro ⟨i, out⟩ ⟨hi0, hi1, hO⟩
  dsimp only at hi0 hi1 hO ⊢
  have hol : out.length ≤ 1099511627776 - 1 := by rw [hO]; have := selTo_len (fullP p) i.toNat; omega
  refine W_seq (fun K6 hK6 => ?_)
  refine W_region hT hG [] [3, 6, 7, 8, 9] ?_
  rw [hnt]
  simp only [baseS, eq_self, implies_true, if_true, if_false, reduceIte, Nat.reduceBEq, Nat.reduceEqDiff, Nat.reduceLT, Nat.reduceAdd, reduceCtorEq, tyInt, tdInt, tyInts, tdInts, decide_false, room, Nat.reduceLeDiff, Nat.zero_le, storeAV, rowQ, ownInts, FT.of, FT.setf, elems, appAV_I, appI, srcI, ownI, anyI, sameR, appAV_P, appP, srcP, ownP, anyP]
  repeat (refine And.intro ?_ ?_; focus (first | exact ordP (by kernel_rfl) | with_reducible exact rfl | assumption | trivial | (simp only [inR]; omega) | omega | exact ⟨by omega, by omega⟩ | exact ⟨by omega, by omega, by omega⟩ | ((try simp only [decide_eq_true_eq, Bool.and_eq_true, ne_eq, decide_not, Bool.not_eq_true', Bool.not_eq_false', Bool.or_eq_false_iff, Bool.not_not, decide_eq_false_iff_not]); (try intro hh); (repeat' apply And.intro) <;> (first | omega | (simp only [inR]; omega) | assumption | exact hh.1 | exact hh.2 | exact hh.2.1 | exact hh.2.2 | exact hh.1.1 | exact hh.1.2 | (intro hq; exact ⟨hh, hq⟩) | (intro hq; exact ⟨hh.1, hq⟩) | (simp_all; done)))))
  refine hK6 _ ?_
  clear hK6
  refine W_seq (fun K7 hK7 => ?_)
  refine W_cond (b := _) rfl (fun hc8 => ?_) (fun hc8 => ?_)
  · try simp only [decide_eq_true_eq, decide_eq_false_iff_not, ne_eq, Decidable.not_not, Bool.not_eq_true', Bool.not_eq_false', Bool.or_eq_true, Bool.and_eq_true, Bool.or_eq_false_iff, Bool.and_eq_false_iff] at hc8
    refine W_skip ?_
    simp only [thenQ, blockQ, loopQ, reduceIte, Nat.reduceEqDiff]
    refine hK7 _ ?_
    clear hK7
    refine W_seq (fun K9 hK9 => ?_)
    refine W_block ?_
    refine W_seq (fun K10 hK10 => ?_)
    refine W_region hT hG [] [3, 4, 5, 6, 7, 8] ?_
    rw [hnt]
    simp only [baseS, eq_self, implies_true, if_true, if_false, reduceIte, Nat.reduceBEq, Nat.reduceEqDiff, Nat.reduceLT, Nat.reduceAdd, reduceCtorEq, tyInt, tdInt, tyInts, tdInts, decide_false, room, Nat.reduceLeDiff, Nat.zero_le, storeAV, rowQ, ownInts, FT.of, FT.setf, elems, appAV_I, appI, srcI, ownI, anyI, sameR, appAV_P, appP, srcP, ownP, anyP]
    repeat (refine And.intro ?_ ?_; focus (first | exact ordP (by kernel_rfl) | with_reducible exact rfl | assumption | trivial | (simp only [inR]; omega) | omega | exact ⟨by omega, by omega⟩ | exact ⟨by omega, by omega, by omega⟩ | ((try simp only [decide_eq_true_eq, Bool.and_eq_true, ne_eq, decide_not, Bool.not_eq_true', Bool.not_eq_false', Bool.or_eq_false_iff, Bool.not_not, decide_eq_false_iff_not]); (try intro hh); (repeat' apply And.intro) <;> (first | omega | (simp only [inR]; omega) | assumption | exact hh.1 | exact hh.2 | exact hh.2.1 | exact hh.2.2 | exact hh.1.1 | exact hh.1.2 | (intro hq; exact ⟨hh, hq⟩) | (intro hq; exact ⟨hh.1, hq⟩) | (simp_all; done)))))
    refine hK10 _ ?_
    clear hK10
    refine W_seq (fun K11 hK11 => ?_)
    refine W_region hT hG [] [3, 4, 6, 7, 8, 14] ?_
    rw [hnt]
    simp only [baseS, eq_self, implies_true, if_true, if_false, reduceIte, Nat.reduceBEq, Nat.reduceEqDiff, Nat.reduceLT, Nat.reduceAdd, reduceCtorEq, tyInt, tdInt, tyInts, tdInts, decide_false, room, Nat.reduceLeDiff, Nat.zero_le, storeAV, rowQ, ownInts, FT.of, FT.setf, elems, appAV_I, appI, srcI, ownI, anyI, sameR, appAV_P, appP, srcP, ownP, anyP]
    repeat (refine And.intro ?_ ?_; focus (first | exact ordP (by kernel_rfl) | with_reducible exact rfl | assumption | trivial | (simp only [inR]; omega) | omega | exact ⟨by omega, by omega⟩ | exact ⟨by omega, by omega, by omega⟩ | ((try simp only [decide_eq_true_eq, Bool.and_eq_true, ne_eq, decide_not, Bool.not_eq_true', Bool.not_eq_false', Bool.or_eq_false_iff, Bool.not_not, decide_eq_false_iff_not]); (try intro hh); (repeat' apply And.intro) <;> (first | omega | (simp only [inR]; omega) | assumption | exact hh.1 | exact hh.2 | exact hh.2.1 | exact hh.2.2 | exact hh.1.1 | exact hh.1.2 | (intro hq; exact ⟨hh, hq⟩) | (intro hq; exact ⟨hh.1, hq⟩) | (simp_all; done)))))
    refine hK11 _ ?_
    clear hK11
    refine W_cond (b := _) rfl (fun hc12 => ?_) (fun hc12 => ?_)
    · try simp only [decide_eq_true_eq, decide_eq_false_iff_not, ne_eq, Decidable.not_not, Bool.not_eq_true', Bool.not_eq_false', Bool.or_eq_true, Bool.and_eq_true, Bool.or_eq_false_iff, Bool.and_eq_false_iff] at hc12
      refine W_region hT hG [] [3, 6, 7, 8] ?_
      rw [hnt]
      simp only [baseS, eq_self, implies_true, if_true, if_false, reduceIte, Nat.reduceBEq, Nat.reduceEqDiff, Nat.reduceLT, Nat.reduceAdd, reduceCtorEq, tyInt, tdInt, tyInts, tdInts, decide_false, room, Nat.reduceLeDiff, Nat.zero_le, storeAV, rowQ, ownInts, FT.of, FT.setf, elems, appAV_I, appI, srcI, ownI, anyI, sameR, appAV_P, appP, srcP, ownP, anyP]
      repeat (refine And.intro ?_ ?_; focus (first | exact ordP (by kernel_rfl) | with_reducible exact rfl | assumption | trivial | (simp only [inR]; omega) | omega | exact ⟨by omega, by omega⟩ | exact ⟨by omega, by omega, by omega⟩ | ((try simp only [decide_eq_true_eq, Bool.and_eq_true, ne_eq, decide_not, Bool.not_eq_true', Bool.not_eq_false', Bool.or_eq_false_iff, Bool.not_not, decide_eq_false_iff_not]); (try intro hh); (repeat' apply And.intro) <;> (first | omega | (simp only [inR]; omega) | assumption | exact hh.1 | exact hh.2 | exact hh.2.1 | exact hh.2.2 | exact hh.1.1 | exact hh.1.2 | (intro hq; exact ⟨hh, hq⟩) | (intro hq; exact ⟨hh.1, hq⟩) | (simp_all; done)))))
      refine hK9 _ ?_
      clear hK9
      refine W_region hT hG [] [3, 6, 7, 8] ?_
      rw [hnt]
      simp only [baseS, eq_self, implies_true, if_true, if_false, reduceIte, Nat.reduceBEq, Nat.reduceEqDiff, Nat.reduceLT, Nat.reduceAdd, reduceCtorEq, tyInt, tdInt, tyInts, tdInts, decide_false, room, Nat.reduceLeDiff, Nat.zero_le, storeAV, rowQ, ownInts, FT.of, FT.setf, elems, appAV_I, appI, srcI, ownI, anyI, sameR, appAV_P, appP, srcP, ownP, anyP]
      repeat (refine And.intro ?_ ?_; focus (first | exact ordP (by kernel_rfl) | with_reducible exact rfl | assumption | trivial | (simp only [inR]; omega) | omega | exact ⟨by omega, by omega⟩ | exact ⟨by omega, by omega, by omega⟩ | ((try simp only [decide_eq_true_eq, Bool.and_eq_true, ne_eq, decide_not, Bool.not_eq_true', Bool.not_eq_false', Bool.or_eq_false_iff, Bool.not_not, decide_eq_false_iff_not]); (try intro hh); (repeat' apply And.intro) <;> (first | omega | (simp only [inR]; omega) | assumption | exact hh.1 | exact hh.2 | exact hh.2.1 | exact hh.2.2 | exact hh.1.1 | exact hh.1.2 | (intro hq; exact ⟨hh, hq⟩) | (intro hq; exact ⟨hh.1, hq⟩) | (simp_all; done)))))
      first
      | (refine ⟨(i + 1, out ++ [i]), (by (try simp only [hnt, hnp]); rfl), ⟨by dsimp only; omega, by dsimp only; omega, by dsimp only; rw [selTo_yes hi0 (decide_eq_true hc12), hO]⟩, by dsimp only; omega⟩)
      | (refine ⟨(i + 1, out), (by (try simp only [hnt, hnp]); rfl), ⟨by dsimp only; omega, by dsimp only; omega, by dsimp only; rw [selTo_no hi0 (decide_eq_false (fun hn => hn hc12)), hO]⟩, by dsimp only; omega⟩)
    · try simp only [decide_eq_true_eq, decide_eq_false_iff_not, ne_eq, Decidable.not_not, Bool.not_eq_true', Bool.not_eq_false', Bool.or_eq_true, Bool.and_eq_true, Bool.or_eq_false_iff, Bool.and_eq_false_iff] at hc12
      refine W_skip ?_
      simp only [thenQ, blockQ, loopQ, reduceIte, Nat.reduceEqDiff]
      refine hK9 _ ?_
      clear hK9
      refine W_region hT hG [] [3, 6, 7, 8] ?_
      rw [hnt]
      simp only [baseS, eq_self, implies_true, if_true, if_false, reduceIte, Nat.reduceBEq, Nat.reduceEqDiff, Nat.reduceLT, Nat.reduceAdd, reduceCtorEq, tyInt, tdInt, tyInts, tdInts, decide_false, room, Nat.reduceLeDiff, Nat.zero_le, storeAV, rowQ, ownInts, FT.of, FT.setf, elems, appAV_I, appI, srcI, ownI, anyI, sameR, appAV_P, appP, srcP, ownP, anyP]
      repeat (refine And.intro ?_ ?_; focus (first | exact ordP (by kernel_rfl) | with_reducible exact rfl | assumption | trivial | (simp only [inR]; omega) | omega | exact ⟨by omega, by omega⟩ | exact ⟨by omega, by omega, by omega⟩ | ((try simp only [decide_eq_true_eq, Bool.and_eq_true, ne_eq, decide_not, Bool.not_eq_true', Bool.not_eq_false', Bool.or_eq_false_iff, Bool.not_not, decide_eq_false_iff_not]); (try intro hh); (repeat' apply And.intro) <;> (first | omega | (simp only [inR]; omega) | assumption | exact hh.1 | exact hh.2 | exact hh.2.1 | exact hh.2.2 | exact hh.1.1 | exact hh.1.2 | (intro hq; exact ⟨hh, hq⟩) | (intro hq; exact ⟨hh.1, hq⟩) | (simp_all; done)))))
      first
      | (refine ⟨(i + 1, out ++ [i]), (by (try simp only [hnt, hnp]); rfl), ⟨by dsimp only; omega, by dsimp only; omega, by dsimp only; rw [selTo_yes hi0 (decide_eq_true hc12), hO]⟩, by dsimp only; omega⟩)
      | (refine ⟨(i + 1, out), (by (try simp only [hnt, hnp]); rfl), ⟨by dsimp only; omega, by dsimp only; omega, by dsimp only; rw [selTo_no hi0 (decide_eq_false (fun hn => hn hc12)), hO]⟩, by dsimp only; omega⟩)
  · try simp only [decide_eq_true_eq, decide_eq_false_iff_not, ne_eq, Decidable.not_not, Bool.not_eq_true', Bool.not_eq_false', Bool.or_eq_true, Bool.and_eq_true, Bool.or_eq_false_iff, Bool.and_eq_false_iff] at hc8
    refine W_exit ?_
    simp only [thenQ, blockQ, loopQ, reduceIte, Nat.reduceEqDiff]
    refine hK3 _ ?_
    clear hK3
    refine W_seq (fun K13 hK13 => ?_)
    refine W_region hT hG [] [2] ?_
    rw [hnt]
    simp only [baseS, eq_self, implies_true, if_true, if_false, reduceIte, Nat.reduceBEq, Nat.reduceEqDiff, Nat.reduceLT, Nat.reduceAdd, reduceCtorEq, tyInt, tdInt, tyInts, tdInts, decide_false, room, Nat.reduceLeDiff, Nat.zero_le, storeAV, rowQ, ownInts, FT.of, FT.setf, elems, appAV_I, appI, srcI, ownI, anyI, sameR, appAV_P, appP, srcP, ownP, anyP]
    repeat (refine And.intro ?_ ?_; focus (first | exact ordP (by kernel_rfl) | with_reducible exact rfl | assumption | trivial | (simp only [inR]; omega) | omega | exact ⟨by omega, by omega⟩ | exact ⟨by omega, by omega, by omega⟩ | ((try simp only [decide_eq_true_eq, Bool.and_eq_true, ne_eq, decide_not, Bool.not_eq_true', Bool.not_eq_false', Bool.or_eq_false_iff, Bool.not_not, decide_eq_false_iff_not]); (try intro hh); (repeat' apply And.intro) <;> (first | omega | (simp only [inR]; omega) | assumption | exact hh.1 | exact hh.2 | exact hh.2.1 | exact hh.2.2 | exact hh.1.1 | exact hh.1.2 | (intro hq; exact ⟨hh, hq⟩) | (intro hq; exact ⟨hh.1, hq⟩) | (simp_all; done)))))
    refine hK13 _ ?_
    clear hK13
    refine W_re [(2, .own 3 .i64)] (by (try simp only [hnt, hnp]); rfl) ?_
    refine W_ret ?_
    simp only [thenQ, blockQ, loopQ, retQ, reduceIte, Nat.reduceEqDiff]
    refine ret1s 2 rfl rfl rfl ?_
    all_goals (
      rw [fullS, hO, show i.toNat = p.length by omega])

def c_impl_classAt : Ctr where
  modes := [.v (.r .box), .v .p]
  al := false
  run := fun xs os => match xs, os with
    | [.rs .box bs, .int n], [] => some ⟨bs.length ≤ 9223372036854775807 ∧ 0 ≤ findF bs n 0, .int (cAt bs n), [], []⟩
    | _, _ => none
theorem m_impl_classAt : Meets Try.prog 111 c_impl_classAt := by
  refine meets_of (T := tyT) tyOK Try.func111 (by rfl) rfl (by decide) ?_
  intro args owns R hrun hpre
  simp only [c_impl_classAt] at hrun
  split at hrun
  case h_2 => cases hrun
  rename_i bs n
  cases hrun
  try dsimp only at hpre
  refine ⟨_, rfl, fun E hP hnt hnp => ?_⟩
  replace hnt : E.nt = 12 := hnt
  replace hnp : E.np = 2 := hnp
  have hT : ∀ t d, tyT t = some d → TyOK E.P t d := hP ▸ tyOK
  have hG : ∀ f C, Γof [(78, c_impl_boxAt)] f = some C → Meets E.P f C := hΓof (by rw [hP]; exact ⟨m_impl_boxAt, trivial⟩)
  try simp only [show Try.f111.ntmps = 12 from rfl]
  have hbs := hpre.1
  have hin := hpre.2
  have hlt := findF_lt hpre.2
  refine W_seq (fun K1 hK1 => ?_)
  refine W_region hT hG [] [0, 1] ?_
  rw [hnt]
  simp only [baseS, eq_self, implies_true, if_true, if_false, reduceIte, Nat.reduceBEq, Nat.reduceEqDiff, Nat.reduceLT, Nat.reduceAdd, reduceCtorEq, tyInt, tdInt, tyBoxes, tdBoxes, tyBox, tdBox, c_impl_boxAt]
  repeat (refine And.intro ?_ ?_; focus (first | exact ordP (by kernel_rfl) | with_reducible exact rfl | assumption | trivial | (simp only [inR]; omega) | omega | (intro hh; (try obtain ⟨hh1, hh2⟩ := hh); (repeat' apply And.intro) <;> first | assumption | (simp only [inR]; omega) | omega | (intros; (repeat' apply And.intro) <;> first | assumption | (simp only [inR]; omega) | omega)) | (intros; (repeat' apply And.intro) <;> first | assumption | (simp only [inR]; omega) | omega | (simp_all; done) | (simp_all [inR]; omega))))
  refine hK1 _ ?_
  clear hK1
  refine W_seq (fun K2 hK2 => ?_)
  refine W_region hT hG [] [4] ?_
  rw [hnt]
  simp only [baseS, eq_self, implies_true, if_true, if_false, reduceIte, Nat.reduceBEq, Nat.reduceEqDiff, Nat.reduceLT, Nat.reduceAdd, reduceCtorEq, tyInt, tdInt, tyBoxes, tdBoxes, tyBox, tdBox, c_impl_boxAt]
  repeat (refine And.intro ?_ ?_; focus (first | exact ordP (by kernel_rfl) | with_reducible exact rfl | assumption | trivial | (simp only [inR]; omega) | omega | (intro hh; (try obtain ⟨hh1, hh2⟩ := hh); (repeat' apply And.intro) <;> first | assumption | (simp only [inR]; omega) | omega | (intros; (repeat' apply And.intro) <;> first | assumption | (simp only [inR]; omega) | omega)) | (intros; (repeat' apply And.intro) <;> first | assumption | (simp only [inR]; omega) | omega | (simp_all; done) | (simp_all [inR]; omega))))
  refine hK2 _ ?_
  clear hK2
  refine W_ret ?_
  simp only [thenQ, blockQ, loopQ, retQ, reduceIte, Nat.reduceEqDiff]
  refine ret0 ?_ rfl rfl (.inr rfl) rfl
  simp only [show Try.f111.results.toList = [ResultVar.tmp 4] from rfl, resAV, resL, look, Nat.reduceEqDiff, reduceIte, tyHull, tdHull, applyUps, noH, isStr, List.length_cons, List.length_nil, Nat.reduceAdd, and_self]
  all_goals (
    first | rfl | (simp_all; done))

def c_spec_l11Class : Ctr where
  modes := [.v (.r .box), .v (.r .i64), .v .p]
  al := false
  run := fun xs os => match xs, os with
    | [.rs .box bs, .rs .i64 p, .int k], [] => some ⟨bs.length ≤ 9223372036854775807 ∧ (0 ≤ k ∧ k < p.length) ∧ inBx bs (p.getD k.toNat 0), .int (c0 bs (p.getD k.toNat 0)), [], []⟩
    | _, _ => none
theorem m_spec_l11Class : Meets Try.prog 114 c_spec_l11Class := by
  refine meets_of (T := tyT) tyOK Try.func114 (by rfl) rfl (by decide) ?_
  intro args owns R hrun hpre
  simp only [c_spec_l11Class] at hrun
  split at hrun
  case h_2 => cases hrun
  rename_i bs p k
  cases hrun
  try dsimp only at hpre
  refine ⟨_, rfl, fun E hP hnt hnp => ?_⟩
  replace hnt : E.nt = 22 := hnt
  replace hnp : E.np = 3 := hnp
  have hT : ∀ t d, tyT t = some d → TyOK E.P t d := hP ▸ tyOK
  have hG : ∀ f C, Γof [(97, c_spec_l2Find)] f = some C → Meets E.P f C := hΓof (by rw [hP]; exact ⟨m_spec_l2Find, trivial⟩)
  try simp only [show Try.f114.ntmps = 22 from rfl]
  have hbs := hpre.1
  have hk := hpre.2.1
  have hin := hpre.2.2
  have hlt := @findF_lt bs (p.getD k.toNat 0)
  refine W_seq (fun K1 hK1 => ?_)
  refine W_region hT hG [] [0, 1, 2] ?_
  rw [hnt]
  simp only [baseS, eq_self, implies_true, if_true, if_false, reduceIte, Nat.reduceBEq, Nat.reduceEqDiff, Nat.reduceLT, Nat.reduceAdd, reduceCtorEq, tyInt, tdInt, tyBoxes, tdBoxes, tyInts, tdInts, tyBox, tdBox, c_spec_l2Find]
  repeat (refine And.intro ?_ ?_; focus (first | exact ordP (by kernel_rfl) | with_reducible exact rfl | assumption | trivial | (simp only [inR]; omega) | omega | (intro hh; (try obtain ⟨hh1, hh2⟩ := hh); (repeat' apply And.intro) <;> first | assumption | (simp only [inR]; omega) | omega | (intros; (repeat' apply And.intro) <;> first | assumption | (simp only [inR]; omega) | omega)) | (intros; (repeat' apply And.intro) <;> first | assumption | (simp only [inR]; omega) | omega | (simp_all; done) | (simp_all [inR]; omega))))
  refine hK1 _ ?_
  clear hK1
  refine W_seq (fun K2 hK2 => ?_)
  refine W_seq (fun K3 hK3 => ?_)
  refine W_region hT hG [] [0, 1, 2, 11] ?_
  rw [hnt]
  simp only [baseS, eq_self, implies_true, if_true, if_false, reduceIte, Nat.reduceBEq, Nat.reduceEqDiff, Nat.reduceLT, Nat.reduceAdd, reduceCtorEq, tyInt, tdInt, tyBoxes, tdBoxes, tyInts, tdInts, tyBox, tdBox, c_spec_l2Find]
  repeat (refine And.intro ?_ ?_; focus (first | exact ordP (by kernel_rfl) | with_reducible exact rfl | assumption | trivial | (simp only [inR]; omega) | omega | (intro hh; (try obtain ⟨hh1, hh2⟩ := hh); (repeat' apply And.intro) <;> first | assumption | (simp only [inR]; omega) | omega | (intros; (repeat' apply And.intro) <;> first | assumption | (simp only [inR]; omega) | omega)) | (intros; (repeat' apply And.intro) <;> first | assumption | (simp only [inR]; omega) | omega | (simp_all; done) | (simp_all [inR]; omega))))
  refine hK3 _ ?_
  clear hK3
  refine W_cond (b := _) rfl (fun hc4 => ?_) (fun hc4 => ?_)
  · try simp only [decide_eq_true_eq, decide_eq_false_iff_not, ne_eq, Decidable.not_not, Bool.not_eq_true', Bool.not_eq_false', Bool.or_eq_true, Bool.and_eq_true, Bool.or_eq_false_iff, Bool.and_eq_false_iff] at hc4
    refine W_seq (fun K5 hK5 => ?_)
    refine W_region hT hG [] [6] ?_
    rw [hnt]
    simp only [baseS, eq_self, implies_true, if_true, if_false, reduceIte, Nat.reduceBEq, Nat.reduceEqDiff, Nat.reduceLT, Nat.reduceAdd, reduceCtorEq, tyInt, tdInt, tyBoxes, tdBoxes, tyInts, tdInts, tyBox, tdBox, c_spec_l2Find]
    repeat (refine And.intro ?_ ?_; focus (first | exact ordP (by kernel_rfl) | with_reducible exact rfl | assumption | trivial | (simp only [inR]; omega) | omega | (intro hh; (try obtain ⟨hh1, hh2⟩ := hh); (repeat' apply And.intro) <;> first | assumption | (simp only [inR]; omega) | omega | (intros; (repeat' apply And.intro) <;> first | assumption | (simp only [inR]; omega) | omega)) | (intros; (repeat' apply And.intro) <;> first | assumption | (simp only [inR]; omega) | omega | (simp_all; done) | (simp_all [inR]; omega))))
    refine hK5 _ ?_
    clear hK5
    refine W_ret ?_
    simp only [thenQ, blockQ, loopQ, retQ, reduceIte, Nat.reduceEqDiff]
    refine ret0 ?_ rfl rfl (.inr rfl) rfl
    simp only [show Try.f114.results.toList = [ResultVar.tmp 6] from rfl, resAV, resL, look, Nat.reduceEqDiff, reduceIte, tyHull, tdHull, applyUps, noH, isStr, List.length_cons, List.length_nil, Nat.reduceAdd, and_self]
    all_goals (
      first | (rw [c0, if_pos hc4]) | (rw [c0, if_neg hc4]; rfl))
  · try simp only [decide_eq_true_eq, decide_eq_false_iff_not, ne_eq, Decidable.not_not, Bool.not_eq_true', Bool.not_eq_false', Bool.or_eq_true, Bool.and_eq_true, Bool.or_eq_false_iff, Bool.and_eq_false_iff] at hc4
    refine W_skip ?_
    simp only [thenQ, blockQ, loopQ, reduceIte, Nat.reduceEqDiff]
    refine hK2 _ ?_
    clear hK2
    refine W_seq (fun K6 hK6 => ?_)
    refine W_region hT hG [] [6] ?_
    rw [hnt]
    have hq := hlt (hin.resolve_left hc4)
    have hq2 := hin.resolve_left hc4
    simp only [baseS, eq_self, implies_true, if_true, if_false, reduceIte, Nat.reduceBEq, Nat.reduceEqDiff, Nat.reduceLT, Nat.reduceAdd, reduceCtorEq, tyInt, tdInt, tyBoxes, tdBoxes, tyInts, tdInts, tyBox, tdBox, c_spec_l2Find]
    repeat (refine And.intro ?_ ?_; focus (first | exact ordP (by kernel_rfl) | with_reducible exact rfl | assumption | trivial | (simp only [inR]; omega) | omega | (intro hh; (try obtain ⟨hh1, hh2⟩ := hh); (repeat' apply And.intro) <;> first | assumption | (simp only [inR]; omega) | omega | (intros; (repeat' apply And.intro) <;> first | assumption | (simp only [inR]; omega) | omega)) | (intros; (repeat' apply And.intro) <;> first | assumption | (simp only [inR]; omega) | omega | (simp_all; done) | (simp_all [inR]; omega))))
    refine hK6 _ ?_
    clear hK6
    refine W_ret ?_
    simp only [thenQ, blockQ, loopQ, retQ, reduceIte, Nat.reduceEqDiff]
    refine ret0 ?_ rfl rfl (.inr rfl) rfl
    simp only [show Try.f114.results.toList = [ResultVar.tmp 6] from rfl, resAV, resL, look, Nat.reduceEqDiff, reduceIte, tyHull, tdHull, applyUps, noH, isStr, List.length_cons, List.length_nil, Nat.reduceAdd, and_self]
    all_goals (
      first | (rw [c0, if_pos hc4]) | (rw [c0, if_neg hc4]; rfl))

def c_impl_TooNear : Ctr where
  modes := [.v .p, .v (.r .box), .v (.r .i64)]
  al := false
  run := fun xs os => match xs, os with
    | [.agg [.int b, .int r, .int t], .rs .box bs, .rs .i64 p], [] => some ⟨bs.length ≤ 9223372036854775807 ∧ p.length ≤ 9223372036854775807, .sl 0, [.sl 66 .pair (nearR b r t bs p)], []⟩
    | _, _ => none
theorem m_impl_TooNear : Meets Try.prog 63 c_impl_TooNear := by
  refine meets_of (T := tyT) tyOK Try.func63 (by rfl) rfl (by decide) ?_
  intro args owns R hrun hpre
  simp only [c_impl_TooNear] at hrun
  split at hrun
  case h_2 => cases hrun
  rename_i b r t bs p
  cases hrun
  try dsimp only at hpre
  refine ⟨_, rfl, fun E hP hnt hnp => ?_⟩
  replace hnt : E.nt = 64 := hnt
  replace hnp : E.np = 3 := hnp
  have hT : ∀ t d, tyT t = some d → TyOK E.P t d := hP ▸ tyOK
  have hG : ∀ f C, Γof [(51, c_impl_PlanValid), (108, c_impl_fullSlots), (109, c_impl_apart), (110, c_impl_ApartNeed), (111, c_impl_classAt)] f = some C → Meets E.P f C := hΓof (by rw [hP]; exact ⟨m_impl_PlanValid, m_impl_fullSlots, m_impl_apart, m_impl_ApartNeed, m_impl_classAt, trivial⟩)
  try simp only [show Try.f63.ntmps = 64 from rfl]
  have hbs := hpre.1
  have hp := hpre.2
  have hle0 := fun h : planB b r t bs p = true => (planB_ok h).le
  have hfl := fullS_len p
  refine W_seq (fun K1 hK1 => ?_)
  refine W_region hT hG [] [1, 2, 3] ?_
  rw [hnt]
  simp only [baseS, eq_self, implies_true, if_true, if_false, reduceIte, Nat.reduceBEq, Nat.reduceEqDiff, Nat.reduceLT, Nat.reduceAdd, reduceCtorEq, tyInt, tdInt, tyHull, tdHull, tyBoxes, tdBoxes, tyInts, tdInts, tyPairs, tdPairs, tyPair, tdPair, c_impl_PlanValid, c_impl_fullSlots, c_impl_apart, c_impl_ApartNeed, c_impl_classAt, decide_false, room, Nat.reduceLeDiff, Nat.zero_le, storeAV, rowQ, ownInts, FT.of, FT.setf, elems, appAV_I, appI, srcI, ownI, anyI, sameR, appAV_P, appP, srcP, ownP, anyP, setAll, Value.cells, List.set_cons_succ, List.set_cons_zero, oneI, List.map_cons, List.map_nil]
  repeat (refine And.intro ?_ ?_; focus (first | exact ordP (by kernel_rfl) | with_reducible exact rfl | assumption | trivial | (simp only [inR]; omega) | omega | exact ⟨by omega, by omega⟩ | exact ⟨by omega, by omega, by omega⟩ | exact ⟨by omega, by assumption⟩ | exact ⟨by omega, ⟨by omega, by omega⟩, hok.inb _⟩ | exact (hok.inb _).resolve_left (by omega) | exact ⟨by omega, (hok.inb _).resolve_left (by omega)⟩ | exact hin2 (by assumption) (by omega) | exact hin2 (by omega) (by omega) | ((try simp only [decide_eq_true_eq, Bool.and_eq_true, ne_eq, decide_not, Bool.not_eq_true', Bool.not_eq_false', Bool.or_eq_false_iff, Bool.not_not, decide_eq_false_iff_not]); (try intro hh); (repeat' apply And.intro) <;> (first | omega | (simp only [inR]; omega) | assumption | exact ⟨by omega, by assumption⟩ | exact ⟨by omega, ⟨by omega, by omega⟩, hok.inb _⟩ | exact (hok.inb _).resolve_left (by omega) | exact ⟨by omega, (hok.inb _).resolve_left (by omega)⟩ | exact hin2 (by assumption) (by omega) | exact hin2 (by omega) (by omega) | exact hh.1 | exact hh.2 | exact hh.2.1 | exact hh.2.2 | exact hh.1.1 | exact hh.1.2 | (intro hq; exact ⟨hh, hq⟩) | (intro hq; exact ⟨hh.1, hq⟩) | (simp_all; done)))))
  refine hK1 _ ?_
  clear hK1
  refine W_seq (fun K2 hK2 => ?_)
  refine W_seq (fun K3 hK3 => ?_)
  refine W_region hT hG [] [1, 2, 3, 15] ?_
  rw [hnt]
  simp only [baseS, eq_self, implies_true, if_true, if_false, reduceIte, Nat.reduceBEq, Nat.reduceEqDiff, Nat.reduceLT, Nat.reduceAdd, reduceCtorEq, tyInt, tdInt, tyHull, tdHull, tyBoxes, tdBoxes, tyInts, tdInts, tyPairs, tdPairs, tyPair, tdPair, c_impl_PlanValid, c_impl_fullSlots, c_impl_apart, c_impl_ApartNeed, c_impl_classAt, decide_false, room, Nat.reduceLeDiff, Nat.zero_le, storeAV, rowQ, ownInts, FT.of, FT.setf, elems, appAV_I, appI, srcI, ownI, anyI, sameR, appAV_P, appP, srcP, ownP, anyP, setAll, Value.cells, List.set_cons_succ, List.set_cons_zero, oneI, List.map_cons, List.map_nil]
  repeat (refine And.intro ?_ ?_; focus (first | exact ordP (by kernel_rfl) | with_reducible exact rfl | assumption | trivial | (simp only [inR]; omega) | omega | exact ⟨by omega, by omega⟩ | exact ⟨by omega, by omega, by omega⟩ | exact ⟨by omega, by assumption⟩ | exact ⟨by omega, ⟨by omega, by omega⟩, hok.inb _⟩ | exact (hok.inb _).resolve_left (by omega) | exact ⟨by omega, (hok.inb _).resolve_left (by omega)⟩ | exact hin2 (by assumption) (by omega) | exact hin2 (by omega) (by omega) | ((try simp only [decide_eq_true_eq, Bool.and_eq_true, ne_eq, decide_not, Bool.not_eq_true', Bool.not_eq_false', Bool.or_eq_false_iff, Bool.not_not, decide_eq_false_iff_not]); (try intro hh); (repeat' apply And.intro) <;> (first | omega | (simp only [inR]; omega) | assumption | exact ⟨by omega, by assumption⟩ | exact ⟨by omega, ⟨by omega, by omega⟩, hok.inb _⟩ | exact (hok.inb _).resolve_left (by omega) | exact ⟨by omega, (hok.inb _).resolve_left (by omega)⟩ | exact hin2 (by assumption) (by omega) | exact hin2 (by omega) (by omega) | exact hh.1 | exact hh.2 | exact hh.2.1 | exact hh.2.2 | exact hh.1.1 | exact hh.1.2 | (intro hq; exact ⟨hh, hq⟩) | (intro hq; exact ⟨hh.1, hq⟩) | (simp_all; done)))))
  refine hK3 _ ?_
  clear hK3
  refine W_cond (b := _) rfl (fun hc4 => ?_) (fun hc4 => ?_)
  · try simp only [decide_eq_true_eq, decide_eq_false_iff_not, ne_eq, Decidable.not_not, Bool.not_eq_true', Bool.not_eq_false', Bool.or_eq_true, Bool.and_eq_true, Bool.or_eq_false_iff, Bool.and_eq_false_iff] at hc4
    refine W_seq (fun K5 hK5 => ?_)
    refine W_region hT hG [] [6] ?_
    rw [hnt]
    simp only [baseS, eq_self, implies_true, if_true, if_false, reduceIte, Nat.reduceBEq, Nat.reduceEqDiff, Nat.reduceLT, Nat.reduceAdd, reduceCtorEq, tyInt, tdInt, tyHull, tdHull, tyBoxes, tdBoxes, tyInts, tdInts, tyPairs, tdPairs, tyPair, tdPair, c_impl_PlanValid, c_impl_fullSlots, c_impl_apart, c_impl_ApartNeed, c_impl_classAt, decide_false, room, Nat.reduceLeDiff, Nat.zero_le, storeAV, rowQ, ownInts, FT.of, FT.setf, elems, appAV_I, appI, srcI, ownI, anyI, sameR, appAV_P, appP, srcP, ownP, anyP, setAll, Value.cells, List.set_cons_succ, List.set_cons_zero, oneI, List.map_cons, List.map_nil]
    repeat (refine And.intro ?_ ?_; focus (first | exact ordP (by kernel_rfl) | with_reducible exact rfl | assumption | trivial | (simp only [inR]; omega) | omega | exact ⟨by omega, by omega⟩ | exact ⟨by omega, by omega, by omega⟩ | exact ⟨by omega, by assumption⟩ | exact ⟨by omega, ⟨by omega, by omega⟩, hok.inb _⟩ | exact (hok.inb _).resolve_left (by omega) | exact ⟨by omega, (hok.inb _).resolve_left (by omega)⟩ | exact hin2 (by assumption) (by omega) | exact hin2 (by omega) (by omega) | ((try simp only [decide_eq_true_eq, Bool.and_eq_true, ne_eq, decide_not, Bool.not_eq_true', Bool.not_eq_false', Bool.or_eq_false_iff, Bool.not_not, decide_eq_false_iff_not]); (try intro hh); (repeat' apply And.intro) <;> (first | omega | (simp only [inR]; omega) | assumption | exact ⟨by omega, by assumption⟩ | exact ⟨by omega, ⟨by omega, by omega⟩, hok.inb _⟩ | exact (hok.inb _).resolve_left (by omega) | exact ⟨by omega, (hok.inb _).resolve_left (by omega)⟩ | exact hin2 (by assumption) (by omega) | exact hin2 (by omega) (by omega) | exact hh.1 | exact hh.2 | exact hh.2.1 | exact hh.2.2 | exact hh.1.1 | exact hh.1.2 | (intro hq; exact ⟨hh, hq⟩) | (intro hq; exact ⟨hh.1, hq⟩) | (simp_all; done)))))
    refine hK5 _ ?_
    clear hK5
    refine W_re [(6, .own 66 .pair)] (by (try simp only [hnt, hnp]); rfl) ?_
    refine W_ret ?_
    simp only [thenQ, blockQ, loopQ, retQ, reduceIte, Nat.reduceEqDiff]
    refine ret1s 6 rfl rfl rfl ?_
    all_goals (
      first | (rw [nearR, if_pos hc4, hO, show j.toNat = (fullS p).length by omega, List.take_length, fullS, cat_same]; done) | (rw [nearR, hc4]; rfl))
  · try simp only [decide_eq_true_eq, decide_eq_false_iff_not, ne_eq, Decidable.not_not, Bool.not_eq_true', Bool.not_eq_false', Bool.or_eq_true, Bool.and_eq_true, Bool.or_eq_false_iff, Bool.and_eq_false_iff] at hc4
    refine W_skip ?_
    simp only [thenQ, blockQ, loopQ, reduceIte, Nat.reduceEqDiff]
    refine hK2 _ ?_
    clear hK2
    refine W_seq (fun K6 hK6 => ?_)
    refine W_region hT hG [] [1, 2, 3, 7] ?_
    rw [hnt]
    simp only [baseS, eq_self, implies_true, if_true, if_false, reduceIte, Nat.reduceBEq, Nat.reduceEqDiff, Nat.reduceLT, Nat.reduceAdd, reduceCtorEq, tyInt, tdInt, tyHull, tdHull, tyBoxes, tdBoxes, tyInts, tdInts, tyPairs, tdPairs, tyPair, tdPair, c_impl_PlanValid, c_impl_fullSlots, c_impl_apart, c_impl_ApartNeed, c_impl_classAt, decide_false, room, Nat.reduceLeDiff, Nat.zero_le, storeAV, rowQ, ownInts, FT.of, FT.setf, elems, appAV_I, appI, srcI, ownI, anyI, sameR, appAV_P, appP, srcP, ownP, anyP, setAll, Value.cells, List.set_cons_succ, List.set_cons_zero, oneI, List.map_cons, List.map_nil]
    repeat (refine And.intro ?_ ?_; focus (first | exact ordP (by kernel_rfl) | with_reducible exact rfl | assumption | trivial | (simp only [inR]; omega) | omega | exact ⟨by omega, by omega⟩ | exact ⟨by omega, by omega, by omega⟩ | exact ⟨by omega, by assumption⟩ | exact ⟨by omega, ⟨by omega, by omega⟩, hok.inb _⟩ | exact (hok.inb _).resolve_left (by omega) | exact ⟨by omega, (hok.inb _).resolve_left (by omega)⟩ | exact hin2 (by assumption) (by omega) | exact hin2 (by omega) (by omega) | ((try simp only [decide_eq_true_eq, Bool.and_eq_true, ne_eq, decide_not, Bool.not_eq_true', Bool.not_eq_false', Bool.or_eq_false_iff, Bool.not_not, decide_eq_false_iff_not]); (try intro hh); (repeat' apply And.intro) <;> (first | omega | (simp only [inR]; omega) | assumption | exact ⟨by omega, by assumption⟩ | exact ⟨by omega, ⟨by omega, by omega⟩, hok.inb _⟩ | exact (hok.inb _).resolve_left (by omega) | exact ⟨by omega, (hok.inb _).resolve_left (by omega)⟩ | exact hin2 (by assumption) (by omega) | exact hin2 (by omega) (by omega) | exact hh.1 | exact hh.2 | exact hh.2.1 | exact hh.2.2 | exact hh.1.1 | exact hh.1.2 | (intro hq; exact ⟨hh, hq⟩) | (intro hq; exact ⟨hh.1, hq⟩) | (simp_all; done)))))
    refine hK6 _ ?_
    clear hK6
    refine W_seq (fun K7 hK7 => ?_)
    refine W_seq (fun K8 hK8 => ?_)
    refine W_region hT hG [] [1, 2, 3, 7, 17, 18, 19] ?_
    rw [hnt]
    have hl36 := hle0 hc4
    simp only [baseS, eq_self, implies_true, if_true, if_false, reduceIte, Nat.reduceBEq, Nat.reduceEqDiff, Nat.reduceLT, Nat.reduceAdd, reduceCtorEq, tyInt, tdInt, tyHull, tdHull, tyBoxes, tdBoxes, tyInts, tdInts, tyPairs, tdPairs, tyPair, tdPair, c_impl_PlanValid, c_impl_fullSlots, c_impl_apart, c_impl_ApartNeed, c_impl_classAt, decide_false, room, Nat.reduceLeDiff, Nat.zero_le, storeAV, rowQ, ownInts, FT.of, FT.setf, elems, appAV_I, appI, srcI, ownI, anyI, sameR, appAV_P, appP, srcP, ownP, anyP, setAll, Value.cells, List.set_cons_succ, List.set_cons_zero, oneI, List.map_cons, List.map_nil]
    repeat (refine And.intro ?_ ?_; focus (first | exact ordP (by kernel_rfl) | with_reducible exact rfl | assumption | trivial | (simp only [inR]; omega) | omega | exact ⟨by omega, by omega⟩ | exact ⟨by omega, by omega, by omega⟩ | exact ⟨by omega, by assumption⟩ | exact ⟨by omega, ⟨by omega, by omega⟩, hok.inb _⟩ | exact (hok.inb _).resolve_left (by omega) | exact ⟨by omega, (hok.inb _).resolve_left (by omega)⟩ | exact hin2 (by assumption) (by omega) | exact hin2 (by omega) (by omega) | ((try simp only [decide_eq_true_eq, Bool.and_eq_true, ne_eq, decide_not, Bool.not_eq_true', Bool.not_eq_false', Bool.or_eq_false_iff, Bool.not_not, decide_eq_false_iff_not]); (try intro hh); (repeat' apply And.intro) <;> (first | omega | (simp only [inR]; omega) | assumption | exact ⟨by omega, by assumption⟩ | exact ⟨by omega, ⟨by omega, by omega⟩, hok.inb _⟩ | exact (hok.inb _).resolve_left (by omega) | exact ⟨by omega, (hok.inb _).resolve_left (by omega)⟩ | exact hin2 (by assumption) (by omega) | exact hin2 (by omega) (by omega) | exact hh.1 | exact hh.2 | exact hh.2.1 | exact hh.2.2 | exact hh.1.1 | exact hh.1.2 | (intro hq; exact ⟨hh, hq⟩) | (intro hq; exact ⟨hh.1, hq⟩) | (simp_all; done)))))
    refine hK8 _ ?_
    clear hK8
    refine W_block ?_
    refine W_loop (α := Int × List PairD) [(1, .as), (2, .as), (3, .as), (7, .own 66 .pair), (17, .fz .i64), (18, .as), (19, .as)] (fun x => ⟨[(1, .rs .box bs), (2, .rs .i64 p), (3, .rp [.int b, .int r, .int t]), (7, .sl 7), (17, .rs .i64 (fullS p)), (18, .int (fullS p).length), (19, .int x.1)], [(7, some (.sl 66 .pair x.2))], 64⟩) (fun x => 0 ≤ x.1 ∧ x.1 ≤ (fullS p).length ∧ x.2 = catL r t bs p ((fullS p).take x.1.toNat)) (fun x => ((fullS p).length - x.1).toNat) (0, []) ?_ ?_ ?_
    · (try simp only [hnt, hnp]); rfl
    · exact ⟨by omega, by omega, by simp [catL]⟩
    rintro ⟨j, out⟩ ⟨hi0, hi1, hO⟩
    dsimp only at hi0 hi1 hO ⊢
    have hok := planB_ok hc4
    have hle := hok.le
    have htt := hv_t hok.ship
    have hol : out.length ≤ 1296 := by
      rw [hO]
      have h1 := catL_len r t bs p ((fullS p).take j.toNat)
      have h2 : ((fullS p).take j.toNat).length * p.length ≤ 36 * 36 := Nat.mul_le_mul (by rw [List.length_take]; omega) (by omega)
      omega
    have hA := fun h => fullS_get (p := p) hi0 h
    refine W_seq (fun K10 hK10 => ?_)
    refine W_region hT hG [] [1, 2, 3, 7, 17, 18, 19, 20] ?_
    rw [hnt]
    simp only [baseS, eq_self, implies_true, if_true, if_false, reduceIte, Nat.reduceBEq, Nat.reduceEqDiff, Nat.reduceLT, Nat.reduceAdd, reduceCtorEq, tyInt, tdInt, tyHull, tdHull, tyBoxes, tdBoxes, tyInts, tdInts, tyPairs, tdPairs, tyPair, tdPair, c_impl_PlanValid, c_impl_fullSlots, c_impl_apart, c_impl_ApartNeed, c_impl_classAt, decide_false, room, Nat.reduceLeDiff, Nat.zero_le, storeAV, rowQ, ownInts, FT.of, FT.setf, elems, appAV_I, appI, srcI, ownI, anyI, sameR, appAV_P, appP, srcP, ownP, anyP, setAll, Value.cells, List.set_cons_succ, List.set_cons_zero, oneI, List.map_cons, List.map_nil]
    repeat (refine And.intro ?_ ?_; focus (first | exact ordP (by kernel_rfl) | with_reducible exact rfl | assumption | trivial | (simp only [inR]; omega) | omega | exact ⟨by omega, by omega⟩ | exact ⟨by omega, by omega, by omega⟩ | exact ⟨by omega, by assumption⟩ | exact ⟨by omega, ⟨by omega, by omega⟩, hok.inb _⟩ | exact (hok.inb _).resolve_left (by omega) | exact ⟨by omega, (hok.inb _).resolve_left (by omega)⟩ | exact hin2 (by assumption) (by omega) | exact hin2 (by omega) (by omega) | ((try simp only [decide_eq_true_eq, Bool.and_eq_true, ne_eq, decide_not, Bool.not_eq_true', Bool.not_eq_false', Bool.or_eq_false_iff, Bool.not_not, decide_eq_false_iff_not]); (try intro hh); (repeat' apply And.intro) <;> (first | omega | (simp only [inR]; omega) | assumption | exact ⟨by omega, by assumption⟩ | exact ⟨by omega, ⟨by omega, by omega⟩, hok.inb _⟩ | exact (hok.inb _).resolve_left (by omega) | exact ⟨by omega, (hok.inb _).resolve_left (by omega)⟩ | exact hin2 (by assumption) (by omega) | exact hin2 (by omega) (by omega) | exact hh.1 | exact hh.2 | exact hh.2.1 | exact hh.2.2 | exact hh.1.1 | exact hh.1.2 | (intro hq; exact ⟨hh, hq⟩) | (intro hq; exact ⟨hh.1, hq⟩) | (simp_all; done)))))
    refine hK10 _ ?_
    clear hK10
    refine W_seq (fun K11 hK11 => ?_)
    refine W_cond (b := _) rfl (fun hc12 => ?_) (fun hc12 => ?_)
    · try simp only [decide_eq_true_eq, decide_eq_false_iff_not, ne_eq, Decidable.not_not, Bool.not_eq_true', Bool.not_eq_false', Bool.or_eq_true, Bool.and_eq_true, Bool.or_eq_false_iff, Bool.and_eq_false_iff] at hc12
      refine W_skip ?_
      simp only [thenQ, blockQ, loopQ, reduceIte, Nat.reduceEqDiff]
      refine hK11 _ ?_
      clear hK11
      refine W_seq (fun K13 hK13 => ?_)
      refine W_block ?_
      refine W_seq (fun K14 hK14 => ?_)
      refine W_region hT hG [] [1, 2, 3, 7, 9, 17, 18, 19] ?_
      rw [hnt]
      simp only [baseS, eq_self, implies_true, if_true, if_false, reduceIte, Nat.reduceBEq, Nat.reduceEqDiff, Nat.reduceLT, Nat.reduceAdd, reduceCtorEq, tyInt, tdInt, tyHull, tdHull, tyBoxes, tdBoxes, tyInts, tdInts, tyPairs, tdPairs, tyPair, tdPair, c_impl_PlanValid, c_impl_fullSlots, c_impl_apart, c_impl_ApartNeed, c_impl_classAt, decide_false, room, Nat.reduceLeDiff, Nat.zero_le, storeAV, rowQ, ownInts, FT.of, FT.setf, elems, appAV_I, appI, srcI, ownI, anyI, sameR, appAV_P, appP, srcP, ownP, anyP, setAll, Value.cells, List.set_cons_succ, List.set_cons_zero, oneI, List.map_cons, List.map_nil]
      repeat (refine And.intro ?_ ?_; focus (first | exact ordP (by kernel_rfl) | with_reducible exact rfl | assumption | trivial | (simp only [inR]; omega) | omega | exact ⟨by omega, by omega⟩ | exact ⟨by omega, by omega, by omega⟩ | exact ⟨by omega, by assumption⟩ | exact ⟨by omega, ⟨by omega, by omega⟩, hok.inb _⟩ | exact (hok.inb _).resolve_left (by omega) | exact ⟨by omega, (hok.inb _).resolve_left (by omega)⟩ | exact hin2 (by assumption) (by omega) | exact hin2 (by omega) (by omega) | ((try simp only [decide_eq_true_eq, Bool.and_eq_true, ne_eq, decide_not, Bool.not_eq_true', Bool.not_eq_false', Bool.or_eq_false_iff, Bool.not_not, decide_eq_false_iff_not]); (try intro hh); (repeat' apply And.intro) <;> (first | omega | (simp only [inR]; omega) | assumption | exact ⟨by omega, by assumption⟩ | exact ⟨by omega, ⟨by omega, by omega⟩, hok.inb _⟩ | exact (hok.inb _).resolve_left (by omega) | exact ⟨by omega, (hok.inb _).resolve_left (by omega)⟩ | exact hin2 (by assumption) (by omega) | exact hin2 (by omega) (by omega) | exact hh.1 | exact hh.2 | exact hh.2.1 | exact hh.2.2 | exact hh.1.1 | exact hh.1.2 | (intro hq; exact ⟨hh, hq⟩) | (intro hq; exact ⟨hh.1, hq⟩) | (simp_all; done)))))
      refine hK14 _ ?_
      clear hK14
      refine W_seq (fun K15 hK15 => ?_)
      refine W_region hT hG [] [1, 2, 3, 7, 9, 10, 17, 18, 19] ?_
      rw [hnt]
      simp only [baseS, eq_self, implies_true, if_true, if_false, reduceIte, Nat.reduceBEq, Nat.reduceEqDiff, Nat.reduceLT, Nat.reduceAdd, reduceCtorEq, tyInt, tdInt, tyHull, tdHull, tyBoxes, tdBoxes, tyInts, tdInts, tyPairs, tdPairs, tyPair, tdPair, c_impl_PlanValid, c_impl_fullSlots, c_impl_apart, c_impl_ApartNeed, c_impl_classAt, decide_false, room, Nat.reduceLeDiff, Nat.zero_le, storeAV, rowQ, ownInts, FT.of, FT.setf, elems, appAV_I, appI, srcI, ownI, anyI, sameR, appAV_P, appP, srcP, ownP, anyP, setAll, Value.cells, List.set_cons_succ, List.set_cons_zero, oneI, List.map_cons, List.map_nil]
      repeat (refine And.intro ?_ ?_; focus (first | exact ordP (by kernel_rfl) | with_reducible exact rfl | assumption | trivial | (simp only [inR]; omega) | omega | exact ⟨by omega, by omega⟩ | exact ⟨by omega, by omega, by omega⟩ | exact ⟨by omega, by assumption⟩ | exact ⟨by omega, ⟨by omega, by omega⟩, hok.inb _⟩ | exact (hok.inb _).resolve_left (by omega) | exact ⟨by omega, (hok.inb _).resolve_left (by omega)⟩ | exact hin2 (by assumption) (by omega) | exact hin2 (by omega) (by omega) | ((try simp only [decide_eq_true_eq, Bool.and_eq_true, ne_eq, decide_not, Bool.not_eq_true', Bool.not_eq_false', Bool.or_eq_false_iff, Bool.not_not, decide_eq_false_iff_not]); (try intro hh); (repeat' apply And.intro) <;> (first | omega | (simp only [inR]; omega) | assumption | exact ⟨by omega, by assumption⟩ | exact ⟨by omega, ⟨by omega, by omega⟩, hok.inb _⟩ | exact (hok.inb _).resolve_left (by omega) | exact ⟨by omega, (hok.inb _).resolve_left (by omega)⟩ | exact hin2 (by assumption) (by omega) | exact hin2 (by omega) (by omega) | exact hh.1 | exact hh.2 | exact hh.2.1 | exact hh.2.2 | exact hh.1.1 | exact hh.1.2 | (intro hq; exact ⟨hh, hq⟩) | (intro hq; exact ⟨hh.1, hq⟩) | (simp_all; done)))))
      refine hK15 _ ?_
      clear hK15
      refine W_block ?_
      refine W_loop (α := Int × List PairD) [(1, .as), (2, .as), (3, .as), (7, .own 66 .pair), (9, .as), (10, .as), (17, .as), (18, .as), (19, .as)] (fun y => ⟨[(1, .rs .box bs), (2, .rs .i64 p), (3, .rp [.int b, .int r, .int t]), (7, .sl 7), (9, .int ((fullS p).getD j.toNat 0)), (10, .int y.1), (17, .rs .i64 (fullS p)), (18, .int (fullS p).length), (19, .int j)], [(7, some (.sl 66 .pair y.2))], 64⟩) (fun y => (fullS p).getD j.toNat 0 + 1 ≤ y.1 ∧ y.1 ≤ p.length ∧ y.2.length ≤ 1296 + y.1 ∧ y.2 = out ++ rowP r t bs p ((fullS p).getD j.toNat 0).toNat y.1.toNat) (fun y => (p.length - y.1).toNat) ((fullS p).getD j.toNat 0 + 1, out) ?_ ?_ ?_
      · (try simp only [hnt, hnp]); rfl
      · exact ⟨by omega, by dsimp only; omega, by dsimp only; omega, by rw [rowP_low _ _ _ _ _ _ (by dsimp only; omega), List.append_nil]⟩
      rintro ⟨q, o2⟩ ⟨hq0, hq1, hol2, hO2⟩
      dsimp only at hq0 hq1 hol2 hO2 ⊢
      have hA1 := hA (by omega)
      have hst := rowP_step (r := r) (t := t) (bs := bs) (p := p) (a := ((fullS p).getD j.toNat 0).toNat) (q := q) (by omega)
      rw [Int.toNat_of_nonneg hA1.1] at hst
      refine W_seq (fun K17 hK17 => ?_)
      refine W_seq (fun K18 hK18 => ?_)
      refine W_region hT hG [] [1, 2, 3, 7, 9, 10, 17, 18, 19, 28] ?_
      rw [hnt]
      simp only [baseS, eq_self, implies_true, if_true, if_false, reduceIte, Nat.reduceBEq, Nat.reduceEqDiff, Nat.reduceLT, Nat.reduceAdd, reduceCtorEq, tyInt, tdInt, tyHull, tdHull, tyBoxes, tdBoxes, tyInts, tdInts, tyPairs, tdPairs, tyPair, tdPair, c_impl_PlanValid, c_impl_fullSlots, c_impl_apart, c_impl_ApartNeed, c_impl_classAt, decide_false, room, Nat.reduceLeDiff, Nat.zero_le, storeAV, rowQ, ownInts, FT.of, FT.setf, elems, appAV_I, appI, srcI, ownI, anyI, sameR, appAV_P, appP, srcP, ownP, anyP, setAll, Value.cells, List.set_cons_succ, List.set_cons_zero, oneI, List.map_cons, List.map_nil]
      repeat (refine And.intro ?_ ?_; focus (first | exact ordP (by kernel_rfl) | with_reducible exact rfl | assumption | trivial | (simp only [inR]; omega) | omega | exact ⟨by omega, by omega⟩ | exact ⟨by omega, by omega, by omega⟩ | exact ⟨by omega, by assumption⟩ | exact ⟨by omega, ⟨by omega, by omega⟩, hok.inb _⟩ | exact (hok.inb _).resolve_left (by omega) | exact ⟨by omega, (hok.inb _).resolve_left (by omega)⟩ | exact hin2 (by assumption) (by omega) | exact hin2 (by omega) (by omega) | ((try simp only [decide_eq_true_eq, Bool.and_eq_true, ne_eq, decide_not, Bool.not_eq_true', Bool.not_eq_false', Bool.or_eq_false_iff, Bool.not_not, decide_eq_false_iff_not]); (try intro hh); (repeat' apply And.intro) <;> (first | omega | (simp only [inR]; omega) | assumption | exact ⟨by omega, by assumption⟩ | exact ⟨by omega, ⟨by omega, by omega⟩, hok.inb _⟩ | exact (hok.inb _).resolve_left (by omega) | exact ⟨by omega, (hok.inb _).resolve_left (by omega)⟩ | exact hin2 (by assumption) (by omega) | exact hin2 (by omega) (by omega) | exact hh.1 | exact hh.2 | exact hh.2.1 | exact hh.2.2 | exact hh.1.1 | exact hh.1.2 | (intro hq; exact ⟨hh, hq⟩) | (intro hq; exact ⟨hh.1, hq⟩) | (simp_all; done)))))
      refine hK18 _ ?_
      clear hK18
      refine W_cond (b := _) rfl (fun hc19 => ?_) (fun hc19 => ?_)
      · try simp only [decide_eq_true_eq, decide_eq_false_iff_not, ne_eq, Decidable.not_not, Bool.not_eq_true', Bool.not_eq_false', Bool.or_eq_true, Bool.and_eq_true, Bool.or_eq_false_iff, Bool.and_eq_false_iff] at hc19
        refine W_skip ?_
        simp only [thenQ, blockQ, loopQ, reduceIte, Nat.reduceEqDiff]
        refine hK17 _ ?_
        clear hK17
        refine W_seq (fun K20 hK20 => ?_)
        refine W_block ?_
        refine W_seq (fun K21 hK21 => ?_)
        refine W_region_draw hT hG (by rw [hP]; exact draws_ok) [] [1, 2, 3, 7, 9, 10, 17, 18, 19, 55] ?_
        rw [hnt]
        have hn2 : (inS b r t ((fullS p).getD j.toNat 0) && inS b r t q) = true := by rw [slot_in hok hA1.1 hA1.2.1, slot_in hok (by omega) (by omega)]; rfl
        have hfa := (hok.inb _).resolve_left hA1.2.2
        have hnd := need_box (cAt bs (p.getD ((fullS p).getD j.toNat 0).toNat 0)) (cAt bs (p.getD q.toNat 0))
        simp only [baseS, eq_self, implies_true, if_true, if_false, reduceIte, Nat.reduceBEq, Nat.reduceEqDiff, Nat.reduceLT, Nat.reduceAdd, reduceCtorEq, tyInt, tdInt, tyHull, tdHull, tyBoxes, tdBoxes, tyInts, tdInts, tyPairs, tdPairs, tyPair, tdPair, c_impl_PlanValid, c_impl_fullSlots, c_impl_apart, c_impl_ApartNeed, c_impl_classAt, decide_false, room, Nat.reduceLeDiff, Nat.zero_le, storeAV, rowQ, ownInts, FT.of, FT.setf, elems, appAV_I, appI, srcI, ownI, anyI, sameR, appAV_P, appP, srcP, ownP, anyP, setAll, Value.cells, List.set_cons_succ, List.set_cons_zero, oneI, List.map_cons, List.map_nil]
        repeat (refine And.intro ?_ ?_; focus (first | exact ordP (by kernel_rfl) | with_reducible exact rfl | assumption | trivial | (simp only [inR]; omega) | omega | exact ⟨by omega, by omega⟩ | exact ⟨by omega, by omega, by omega⟩ | exact ⟨by omega, by assumption⟩ | exact ⟨by omega, ⟨by omega, by omega⟩, hok.inb _⟩ | exact (hok.inb _).resolve_left (by omega) | exact ⟨by omega, (hok.inb _).resolve_left (by omega)⟩ | exact hin2 (by assumption) (by omega) | exact hin2 (by omega) (by omega) | ((try simp only [decide_eq_true_eq, Bool.and_eq_true, ne_eq, decide_not, Bool.not_eq_true', Bool.not_eq_false', Bool.or_eq_false_iff, Bool.not_not, decide_eq_false_iff_not]); (try intro hh); (repeat' apply And.intro) <;> (first | omega | (simp only [inR]; omega) | assumption | exact ⟨by omega, by assumption⟩ | exact ⟨by omega, ⟨by omega, by omega⟩, hok.inb _⟩ | exact (hok.inb _).resolve_left (by omega) | exact ⟨by omega, (hok.inb _).resolve_left (by omega)⟩ | exact hin2 (by assumption) (by omega) | exact hin2 (by omega) (by omega) | exact hh.1 | exact hh.2 | exact hh.2.1 | exact hh.2.2 | exact hh.1.1 | exact hh.1.2 | (intro hq; exact ⟨hh, hq⟩) | (intro hq; exact ⟨hh.1, hq⟩) | (simp_all; done)))))
        refine hK21 _ ?_
        clear hK21
        refine W_cond (b := _) rfl (fun hc22 => ?_) (fun hc22 => ?_)
        · try simp only [decide_eq_true_eq, decide_eq_false_iff_not, ne_eq, Decidable.not_not, Bool.not_eq_true', Bool.not_eq_false', Bool.or_eq_true, Bool.and_eq_true, Bool.or_eq_false_iff, Bool.and_eq_false_iff] at hc22
          refine W_region hT hG [] [1, 2, 3, 7, 9, 10, 17, 18, 19] ?_
          rw [hnt]
          simp only [baseS, eq_self, implies_true, if_true, if_false, reduceIte, Nat.reduceBEq, Nat.reduceEqDiff, Nat.reduceLT, Nat.reduceAdd, reduceCtorEq, tyInt, tdInt, tyHull, tdHull, tyBoxes, tdBoxes, tyInts, tdInts, tyPairs, tdPairs, tyPair, tdPair, c_impl_PlanValid, c_impl_fullSlots, c_impl_apart, c_impl_ApartNeed, c_impl_classAt, decide_false, room, Nat.reduceLeDiff, Nat.zero_le, storeAV, rowQ, ownInts, FT.of, FT.setf, elems, appAV_I, appI, srcI, ownI, anyI, sameR, appAV_P, appP, srcP, ownP, anyP, setAll, Value.cells, List.set_cons_succ, List.set_cons_zero, oneI, List.map_cons, List.map_nil]
          repeat (refine And.intro ?_ ?_; focus (first | exact ordP (by kernel_rfl) | with_reducible exact rfl | assumption | trivial | (simp only [inR]; omega) | omega | exact ⟨by omega, by omega⟩ | exact ⟨by omega, by omega, by omega⟩ | exact ⟨by omega, by assumption⟩ | exact ⟨by omega, ⟨by omega, by omega⟩, hok.inb _⟩ | exact (hok.inb _).resolve_left (by omega) | exact ⟨by omega, (hok.inb _).resolve_left (by omega)⟩ | exact hin2 (by assumption) (by omega) | exact hin2 (by omega) (by omega) | ((try simp only [decide_eq_true_eq, Bool.and_eq_true, ne_eq, decide_not, Bool.not_eq_true', Bool.not_eq_false', Bool.or_eq_false_iff, Bool.not_not, decide_eq_false_iff_not]); (try intro hh); (repeat' apply And.intro) <;> (first | omega | (simp only [inR]; omega) | assumption | exact ⟨by omega, by assumption⟩ | exact ⟨by omega, ⟨by omega, by omega⟩, hok.inb _⟩ | exact (hok.inb _).resolve_left (by omega) | exact ⟨by omega, (hok.inb _).resolve_left (by omega)⟩ | exact hin2 (by assumption) (by omega) | exact hin2 (by omega) (by omega) | exact hh.1 | exact hh.2 | exact hh.2.1 | exact hh.2.2 | exact hh.1.1 | exact hh.1.2 | (intro hq; exact ⟨hh, hq⟩) | (intro hq; exact ⟨hh.1, hq⟩) | (simp_all; done)))))
          refine hK20 _ ?_
          clear hK20
          refine W_region hT hG [] [1, 2, 3, 7, 9, 10, 17, 18, 19] ?_
          rw [hnt]
          simp only [baseS, eq_self, implies_true, if_true, if_false, reduceIte, Nat.reduceBEq, Nat.reduceEqDiff, Nat.reduceLT, Nat.reduceAdd, reduceCtorEq, tyInt, tdInt, tyHull, tdHull, tyBoxes, tdBoxes, tyInts, tdInts, tyPairs, tdPairs, tyPair, tdPair, c_impl_PlanValid, c_impl_fullSlots, c_impl_apart, c_impl_ApartNeed, c_impl_classAt, decide_false, room, Nat.reduceLeDiff, Nat.zero_le, storeAV, rowQ, ownInts, FT.of, FT.setf, elems, appAV_I, appI, srcI, ownI, anyI, sameR, appAV_P, appP, srcP, ownP, anyP, setAll, Value.cells, List.set_cons_succ, List.set_cons_zero, oneI, List.map_cons, List.map_nil]
          repeat (refine And.intro ?_ ?_; focus (first | exact ordP (by kernel_rfl) | with_reducible exact rfl | assumption | trivial | (simp only [inR]; omega) | omega | exact ⟨by omega, by omega⟩ | exact ⟨by omega, by omega, by omega⟩ | exact ⟨by omega, by assumption⟩ | exact ⟨by omega, ⟨by omega, by omega⟩, hok.inb _⟩ | exact (hok.inb _).resolve_left (by omega) | exact ⟨by omega, (hok.inb _).resolve_left (by omega)⟩ | exact hin2 (by assumption) (by omega) | exact hin2 (by omega) (by omega) | ((try simp only [decide_eq_true_eq, Bool.and_eq_true, ne_eq, decide_not, Bool.not_eq_true', Bool.not_eq_false', Bool.or_eq_false_iff, Bool.not_not, decide_eq_false_iff_not]); (try intro hh); (repeat' apply And.intro) <;> (first | omega | (simp only [inR]; omega) | assumption | exact ⟨by omega, by assumption⟩ | exact ⟨by omega, ⟨by omega, by omega⟩, hok.inb _⟩ | exact (hok.inb _).resolve_left (by omega) | exact ⟨by omega, (hok.inb _).resolve_left (by omega)⟩ | exact hin2 (by assumption) (by omega) | exact hin2 (by omega) (by omega) | exact hh.1 | exact hh.2 | exact hh.2.1 | exact hh.2.2 | exact hh.1.1 | exact hh.1.2 | (intro hq; exact ⟨hh, hq⟩) | (intro hq; exact ⟨hh.1, hq⟩) | (simp_all; done)))))
          have hni := near_i (r := r) (t := t) (bs := bs) (p := p) hA1.1 (show 0 ≤ q by omega) (by omega) hA1.2.2
          first
          | (refine ⟨(q + 1, o2 ++ [⟨(fullS p).getD j.toNat 0, q⟩]), (by (try simp only [hnt, hnp]); rfl), ⟨by dsimp only; omega, by dsimp only; omega, by dsimp only; rw [List.length_append, List.length_singleton]; omega, by dsimp only; rw [hst, if_pos (by rw [hni, decide_eq_true hc22.1, decide_eq_true hc22.2]; rfl), hO2, List.append_assoc]⟩, by dsimp only; omega⟩)
          | (refine ⟨(q + 1, o2), (by (try simp only [hnt, hnp]); rfl), ⟨by dsimp only; omega, by dsimp only; omega, by dsimp only; omega, by dsimp only; rw [hst, if_neg (by rw [hni]; rcases hc22 with h | h; (rw [decide_eq_false (fun hn => hn h)]; simp); (rw [decide_eq_false h, Bool.and_false]; simp)), hO2]⟩, by dsimp only; omega⟩)
        · try simp only [decide_eq_true_eq, decide_eq_false_iff_not, ne_eq, Decidable.not_not, Bool.not_eq_true', Bool.not_eq_false', Bool.or_eq_true, Bool.and_eq_true, Bool.or_eq_false_iff, Bool.and_eq_false_iff] at hc22
          refine W_skip ?_
          simp only [thenQ, blockQ, loopQ, reduceIte, Nat.reduceEqDiff]
          refine hK20 _ ?_
          clear hK20
          refine W_region hT hG [] [1, 2, 3, 7, 9, 10, 17, 18, 19] ?_
          rw [hnt]
          simp only [baseS, eq_self, implies_true, if_true, if_false, reduceIte, Nat.reduceBEq, Nat.reduceEqDiff, Nat.reduceLT, Nat.reduceAdd, reduceCtorEq, tyInt, tdInt, tyHull, tdHull, tyBoxes, tdBoxes, tyInts, tdInts, tyPairs, tdPairs, tyPair, tdPair, c_impl_PlanValid, c_impl_fullSlots, c_impl_apart, c_impl_ApartNeed, c_impl_classAt, decide_false, room, Nat.reduceLeDiff, Nat.zero_le, storeAV, rowQ, ownInts, FT.of, FT.setf, elems, appAV_I, appI, srcI, ownI, anyI, sameR, appAV_P, appP, srcP, ownP, anyP, setAll, Value.cells, List.set_cons_succ, List.set_cons_zero, oneI, List.map_cons, List.map_nil]
          repeat (refine And.intro ?_ ?_; focus (first | exact ordP (by kernel_rfl) | with_reducible exact rfl | assumption | trivial | (simp only [inR]; omega) | omega | exact ⟨by omega, by omega⟩ | exact ⟨by omega, by omega, by omega⟩ | exact ⟨by omega, by assumption⟩ | exact ⟨by omega, ⟨by omega, by omega⟩, hok.inb _⟩ | exact (hok.inb _).resolve_left (by omega) | exact ⟨by omega, (hok.inb _).resolve_left (by omega)⟩ | exact hin2 (by assumption) (by omega) | exact hin2 (by omega) (by omega) | ((try simp only [decide_eq_true_eq, Bool.and_eq_true, ne_eq, decide_not, Bool.not_eq_true', Bool.not_eq_false', Bool.or_eq_false_iff, Bool.not_not, decide_eq_false_iff_not]); (try intro hh); (repeat' apply And.intro) <;> (first | omega | (simp only [inR]; omega) | assumption | exact ⟨by omega, by assumption⟩ | exact ⟨by omega, ⟨by omega, by omega⟩, hok.inb _⟩ | exact (hok.inb _).resolve_left (by omega) | exact ⟨by omega, (hok.inb _).resolve_left (by omega)⟩ | exact hin2 (by assumption) (by omega) | exact hin2 (by omega) (by omega) | exact hh.1 | exact hh.2 | exact hh.2.1 | exact hh.2.2 | exact hh.1.1 | exact hh.1.2 | (intro hq; exact ⟨hh, hq⟩) | (intro hq; exact ⟨hh.1, hq⟩) | (simp_all; done)))))
          have hni := near_i (r := r) (t := t) (bs := bs) (p := p) hA1.1 (show 0 ≤ q by omega) (by omega) hA1.2.2
          first
          | (refine ⟨(q + 1, o2 ++ [⟨(fullS p).getD j.toNat 0, q⟩]), (by (try simp only [hnt, hnp]); rfl), ⟨by dsimp only; omega, by dsimp only; omega, by dsimp only; rw [List.length_append, List.length_singleton]; omega, by dsimp only; rw [hst, if_pos (by rw [hni, decide_eq_true hc22.1, decide_eq_true hc22.2]; rfl), hO2, List.append_assoc]⟩, by dsimp only; omega⟩)
          | (refine ⟨(q + 1, o2), (by (try simp only [hnt, hnp]); rfl), ⟨by dsimp only; omega, by dsimp only; omega, by dsimp only; omega, by dsimp only; rw [hst, if_neg (by rw [hni]; rcases hc22 with h | h; (rw [decide_eq_false (fun hn => hn h)]; simp); (rw [decide_eq_false h, Bool.and_false]; simp)), hO2]⟩, by dsimp only; omega⟩)
      · try simp only [decide_eq_true_eq, decide_eq_false_iff_not, ne_eq, Decidable.not_not, Bool.not_eq_true', Bool.not_eq_false', Bool.or_eq_true, Bool.and_eq_true, Bool.or_eq_false_iff, Bool.and_eq_false_iff] at hc19
        refine W_exit ?_
        simp only [thenQ, blockQ, loopQ, reduceIte, Nat.reduceEqDiff]
        refine hK13 _ ?_
        clear hK13
        refine W_region hT hG [] [1, 2, 3, 7, 17, 18, 19] ?_
        rw [hnt]
        simp only [baseS, eq_self, implies_true, if_true, if_false, reduceIte, Nat.reduceBEq, Nat.reduceEqDiff, Nat.reduceLT, Nat.reduceAdd, reduceCtorEq, tyInt, tdInt, tyHull, tdHull, tyBoxes, tdBoxes, tyInts, tdInts, tyPairs, tdPairs, tyPair, tdPair, c_impl_PlanValid, c_impl_fullSlots, c_impl_apart, c_impl_ApartNeed, c_impl_classAt, decide_false, room, Nat.reduceLeDiff, Nat.zero_le, storeAV, rowQ, ownInts, FT.of, FT.setf, elems, appAV_I, appI, srcI, ownI, anyI, sameR, appAV_P, appP, srcP, ownP, anyP, setAll, Value.cells, List.set_cons_succ, List.set_cons_zero, oneI, List.map_cons, List.map_nil]
        repeat (refine And.intro ?_ ?_; focus (first | exact ordP (by kernel_rfl) | with_reducible exact rfl | assumption | trivial | (simp only [inR]; omega) | omega | exact ⟨by omega, by omega⟩ | exact ⟨by omega, by omega, by omega⟩ | exact ⟨by omega, by assumption⟩ | exact ⟨by omega, ⟨by omega, by omega⟩, hok.inb _⟩ | exact (hok.inb _).resolve_left (by omega) | exact ⟨by omega, (hok.inb _).resolve_left (by omega)⟩ | exact hin2 (by assumption) (by omega) | exact hin2 (by omega) (by omega) | ((try simp only [decide_eq_true_eq, Bool.and_eq_true, ne_eq, decide_not, Bool.not_eq_true', Bool.not_eq_false', Bool.or_eq_false_iff, Bool.not_not, decide_eq_false_iff_not]); (try intro hh); (repeat' apply And.intro) <;> (first | omega | (simp only [inR]; omega) | assumption | exact ⟨by omega, by assumption⟩ | exact ⟨by omega, ⟨by omega, by omega⟩, hok.inb _⟩ | exact (hok.inb _).resolve_left (by omega) | exact ⟨by omega, (hok.inb _).resolve_left (by omega)⟩ | exact hin2 (by assumption) (by omega) | exact hin2 (by omega) (by omega) | exact hh.1 | exact hh.2 | exact hh.2.1 | exact hh.2.2 | exact hh.1.1 | exact hh.1.2 | (intro hq; exact ⟨hh, hq⟩) | (intro hq; exact ⟨hh.1, hq⟩) | (simp_all; done)))))
        refine ⟨(j + 1, o2), (by (try simp only [hnt, hnp]); rfl), ⟨by dsimp only; omega, by dsimp only; omega, by dsimp only; rw [catL_step hi0 (by omega), hO2, hO, show q.toNat = p.length by omega]⟩, by dsimp only; omega⟩
    · try simp only [decide_eq_true_eq, decide_eq_false_iff_not, ne_eq, Decidable.not_not, Bool.not_eq_true', Bool.not_eq_false', Bool.or_eq_true, Bool.and_eq_true, Bool.or_eq_false_iff, Bool.and_eq_false_iff] at hc12
      refine W_exit ?_
      simp only [thenQ, blockQ, loopQ, reduceIte, Nat.reduceEqDiff]
      refine hK7 _ ?_
      clear hK7
      refine W_seq (fun K23 hK23 => ?_)
      refine W_region hT hG [] [6] ?_
      rw [hnt]
      simp only [baseS, eq_self, implies_true, if_true, if_false, reduceIte, Nat.reduceBEq, Nat.reduceEqDiff, Nat.reduceLT, Nat.reduceAdd, reduceCtorEq, tyInt, tdInt, tyHull, tdHull, tyBoxes, tdBoxes, tyInts, tdInts, tyPairs, tdPairs, tyPair, tdPair, c_impl_PlanValid, c_impl_fullSlots, c_impl_apart, c_impl_ApartNeed, c_impl_classAt, decide_false, room, Nat.reduceLeDiff, Nat.zero_le, storeAV, rowQ, ownInts, FT.of, FT.setf, elems, appAV_I, appI, srcI, ownI, anyI, sameR, appAV_P, appP, srcP, ownP, anyP, setAll, Value.cells, List.set_cons_succ, List.set_cons_zero, oneI, List.map_cons, List.map_nil]
      repeat (refine And.intro ?_ ?_; focus (first | exact ordP (by kernel_rfl) | with_reducible exact rfl | assumption | trivial | (simp only [inR]; omega) | omega | exact ⟨by omega, by omega⟩ | exact ⟨by omega, by omega, by omega⟩ | exact ⟨by omega, by assumption⟩ | exact ⟨by omega, ⟨by omega, by omega⟩, hok.inb _⟩ | exact (hok.inb _).resolve_left (by omega) | exact ⟨by omega, (hok.inb _).resolve_left (by omega)⟩ | exact hin2 (by assumption) (by omega) | exact hin2 (by omega) (by omega) | ((try simp only [decide_eq_true_eq, Bool.and_eq_true, ne_eq, decide_not, Bool.not_eq_true', Bool.not_eq_false', Bool.or_eq_false_iff, Bool.not_not, decide_eq_false_iff_not]); (try intro hh); (repeat' apply And.intro) <;> (first | omega | (simp only [inR]; omega) | assumption | exact ⟨by omega, by assumption⟩ | exact ⟨by omega, ⟨by omega, by omega⟩, hok.inb _⟩ | exact (hok.inb _).resolve_left (by omega) | exact ⟨by omega, (hok.inb _).resolve_left (by omega)⟩ | exact hin2 (by assumption) (by omega) | exact hin2 (by omega) (by omega) | exact hh.1 | exact hh.2 | exact hh.2.1 | exact hh.2.2 | exact hh.1.1 | exact hh.1.2 | (intro hq; exact ⟨hh, hq⟩) | (intro hq; exact ⟨hh.1, hq⟩) | (simp_all; done)))))
      refine hK23 _ ?_
      clear hK23
      refine W_re [(6, .own 66 .pair)] (by (try simp only [hnt, hnp]); rfl) ?_
      refine W_ret ?_
      simp only [thenQ, blockQ, loopQ, retQ, reduceIte, Nat.reduceEqDiff]
      refine ret1s 6 rfl rfl rfl ?_
      all_goals (
        first | (rw [nearR, if_pos hc4, hO, show j.toNat = (fullS p).length by omega, List.take_length, fullS, cat_same]; done) | (rw [nearR, hc12]; rfl))

def c_spec_TooNear : Ctr where
  modes := [.v .p, .v (.r .box), .v (.r .i64)]
  al := false
  run := fun xs os => match xs, os with
    | [.agg [.int b, .int r, .int t], .rs .box bs, .rs .i64 p], [] => some ⟨bs.length ≤ 9223372036854775807 ∧ p.length ≤ 9223372036854775807, .sl 0, [.sl 66 .pair (nearR b r t bs p)], []⟩
    | _, _ => none
theorem m_spec_TooNear : Meets Try.prog 65 c_spec_TooNear := by
  refine meets_of (T := tyT) tyOK Try.func65 (by rfl) rfl (by decide) ?_
  intro args owns R hrun hpre
  simp only [c_spec_TooNear] at hrun
  split at hrun
  case h_2 => cases hrun
  rename_i b r t bs p
  cases hrun
  try dsimp only at hpre
  refine ⟨_, rfl, fun E hP hnt hnp => ?_⟩
  replace hnt : E.nt = 52 := hnt
  replace hnp : E.np = 3 := hnp
  have hT : ∀ t d, tyT t = some d → TyOK E.P t d := hP ▸ tyOK
  have hG : ∀ f C, Γof [(42, c_spec_PlanValid), (112, c_spec_ApartOf), (113, c_spec_ApartNeed), (114, c_spec_l11Class)] f = some C → Meets E.P f C := hΓof (by rw [hP]; exact ⟨m_spec_PlanValid, m_spec_ApartOf, m_spec_ApartNeed, m_spec_l11Class, trivial⟩)
  try simp only [show Try.f65.ntmps = 52 from rfl]
  have hbs := hpre.1
  have hp := hpre.2
  refine W_seq (fun K1 hK1 => ?_)
  refine W_region hT hG [] [1, 2, 3] ?_
  rw [hnt]
  simp only [baseS, eq_self, implies_true, if_true, if_false, reduceIte, Nat.reduceBEq, Nat.reduceEqDiff, Nat.reduceLT, Nat.reduceAdd, reduceCtorEq, tyInt, tdInt, tyHull, tdHull, tyBoxes, tdBoxes, tyInts, tdInts, tyPairs, tdPairs, tyPair, tdPair, c_spec_PlanValid, c_spec_ApartOf, c_spec_ApartNeed, c_spec_l11Class, decide_false, room, Nat.reduceLeDiff, Nat.zero_le, storeAV, rowQ, ownInts, FT.of, FT.setf, elems, appAV_I, appI, srcI, ownI, anyI, sameR, appAV_P, appP, srcP, ownP, anyP, setAll, Value.cells, List.set_cons_succ, List.set_cons_zero, oneI, List.map_cons, List.map_nil]
  repeat (refine And.intro ?_ ?_; focus (first | exact ordP (by kernel_rfl) | with_reducible exact rfl | assumption | trivial | (simp only [inR]; omega) | omega | exact ⟨by omega, by omega⟩ | exact ⟨by omega, by omega, by omega⟩ | exact ⟨by omega, by assumption⟩ | exact ⟨by omega, ⟨by omega, by omega⟩, hok.inb _⟩ | exact (hok.inb _).resolve_left (by omega) | exact ⟨by omega, (hok.inb _).resolve_left (by omega)⟩ | exact hin2 (by assumption) (by omega) | exact hin2 (by omega) (by omega) | ((try simp only [decide_eq_true_eq, Bool.and_eq_true, ne_eq, decide_not, Bool.not_eq_true', Bool.not_eq_false', Bool.or_eq_false_iff, Bool.not_not, decide_eq_false_iff_not]); (try intro hh); (repeat' apply And.intro) <;> (first | omega | (simp only [inR]; omega) | assumption | exact ⟨by omega, by assumption⟩ | exact ⟨by omega, ⟨by omega, by omega⟩, hok.inb _⟩ | exact (hok.inb _).resolve_left (by omega) | exact ⟨by omega, (hok.inb _).resolve_left (by omega)⟩ | exact hin2 (by assumption) (by omega) | exact hin2 (by omega) (by omega) | exact hh.1 | exact hh.2 | exact hh.2.1 | exact hh.2.2 | exact hh.1.1 | exact hh.1.2 | (intro hq; exact ⟨hh, hq⟩) | (intro hq; exact ⟨hh.1, hq⟩) | (simp_all; done)))))
  refine hK1 _ ?_
  clear hK1
  refine W_seq (fun K2 hK2 => ?_)
  refine W_region hT hG [] [1, 2, 3, 7] ?_
  rw [hnt]
  simp only [baseS, eq_self, implies_true, if_true, if_false, reduceIte, Nat.reduceBEq, Nat.reduceEqDiff, Nat.reduceLT, Nat.reduceAdd, reduceCtorEq, tyInt, tdInt, tyHull, tdHull, tyBoxes, tdBoxes, tyInts, tdInts, tyPairs, tdPairs, tyPair, tdPair, c_spec_PlanValid, c_spec_ApartOf, c_spec_ApartNeed, c_spec_l11Class, decide_false, room, Nat.reduceLeDiff, Nat.zero_le, storeAV, rowQ, ownInts, FT.of, FT.setf, elems, appAV_I, appI, srcI, ownI, anyI, sameR, appAV_P, appP, srcP, ownP, anyP, setAll, Value.cells, List.set_cons_succ, List.set_cons_zero, oneI, List.map_cons, List.map_nil]
  repeat (refine And.intro ?_ ?_; focus (first | exact ordP (by kernel_rfl) | with_reducible exact rfl | assumption | trivial | (simp only [inR]; omega) | omega | exact ⟨by omega, by omega⟩ | exact ⟨by omega, by omega, by omega⟩ | exact ⟨by omega, by assumption⟩ | exact ⟨by omega, ⟨by omega, by omega⟩, hok.inb _⟩ | exact (hok.inb _).resolve_left (by omega) | exact ⟨by omega, (hok.inb _).resolve_left (by omega)⟩ | exact hin2 (by assumption) (by omega) | exact hin2 (by omega) (by omega) | ((try simp only [decide_eq_true_eq, Bool.and_eq_true, ne_eq, decide_not, Bool.not_eq_true', Bool.not_eq_false', Bool.or_eq_false_iff, Bool.not_not, decide_eq_false_iff_not]); (try intro hh); (repeat' apply And.intro) <;> (first | omega | (simp only [inR]; omega) | assumption | exact ⟨by omega, by assumption⟩ | exact ⟨by omega, ⟨by omega, by omega⟩, hok.inb _⟩ | exact (hok.inb _).resolve_left (by omega) | exact ⟨by omega, (hok.inb _).resolve_left (by omega)⟩ | exact hin2 (by assumption) (by omega) | exact hin2 (by omega) (by omega) | exact hh.1 | exact hh.2 | exact hh.2.1 | exact hh.2.2 | exact hh.1.1 | exact hh.1.2 | (intro hq; exact ⟨hh, hq⟩) | (intro hq; exact ⟨hh.1, hq⟩) | (simp_all; done)))))
  refine hK2 _ ?_
  clear hK2
  refine W_seq (fun K3 hK3 => ?_)
  refine W_seq (fun K4 hK4 => ?_)
  refine W_region hT hG [] [1, 2, 3, 7, 15] ?_
  rw [hnt]
  simp only [baseS, eq_self, implies_true, if_true, if_false, reduceIte, Nat.reduceBEq, Nat.reduceEqDiff, Nat.reduceLT, Nat.reduceAdd, reduceCtorEq, tyInt, tdInt, tyHull, tdHull, tyBoxes, tdBoxes, tyInts, tdInts, tyPairs, tdPairs, tyPair, tdPair, c_spec_PlanValid, c_spec_ApartOf, c_spec_ApartNeed, c_spec_l11Class, decide_false, room, Nat.reduceLeDiff, Nat.zero_le, storeAV, rowQ, ownInts, FT.of, FT.setf, elems, appAV_I, appI, srcI, ownI, anyI, sameR, appAV_P, appP, srcP, ownP, anyP, setAll, Value.cells, List.set_cons_succ, List.set_cons_zero, oneI, List.map_cons, List.map_nil]
  repeat (refine And.intro ?_ ?_; focus (first | exact ordP (by kernel_rfl) | with_reducible exact rfl | assumption | trivial | (simp only [inR]; omega) | omega | exact ⟨by omega, by omega⟩ | exact ⟨by omega, by omega, by omega⟩ | exact ⟨by omega, by assumption⟩ | exact ⟨by omega, ⟨by omega, by omega⟩, hok.inb _⟩ | exact (hok.inb _).resolve_left (by omega) | exact ⟨by omega, (hok.inb _).resolve_left (by omega)⟩ | exact hin2 (by assumption) (by omega) | exact hin2 (by omega) (by omega) | ((try simp only [decide_eq_true_eq, Bool.and_eq_true, ne_eq, decide_not, Bool.not_eq_true', Bool.not_eq_false', Bool.or_eq_false_iff, Bool.not_not, decide_eq_false_iff_not]); (try intro hh); (repeat' apply And.intro) <;> (first | omega | (simp only [inR]; omega) | assumption | exact ⟨by omega, by assumption⟩ | exact ⟨by omega, ⟨by omega, by omega⟩, hok.inb _⟩ | exact (hok.inb _).resolve_left (by omega) | exact ⟨by omega, (hok.inb _).resolve_left (by omega)⟩ | exact hin2 (by assumption) (by omega) | exact hin2 (by omega) (by omega) | exact hh.1 | exact hh.2 | exact hh.2.1 | exact hh.2.2 | exact hh.1.1 | exact hh.1.2 | (intro hq; exact ⟨hh, hq⟩) | (intro hq; exact ⟨hh.1, hq⟩) | (simp_all; done)))))
  refine hK4 _ ?_
  clear hK4
  refine W_cond (b := _) rfl (fun hc5 => ?_) (fun hc5 => ?_)
  · try simp only [decide_eq_true_eq, decide_eq_false_iff_not, ne_eq, Decidable.not_not, Bool.not_eq_true', Bool.not_eq_false', Bool.or_eq_true, Bool.and_eq_true, Bool.or_eq_false_iff, Bool.and_eq_false_iff] at hc5
    refine W_seq (fun K6 hK6 => ?_)
    refine W_region hT hG [] [6] ?_
    rw [hnt]
    simp only [baseS, eq_self, implies_true, if_true, if_false, reduceIte, Nat.reduceBEq, Nat.reduceEqDiff, Nat.reduceLT, Nat.reduceAdd, reduceCtorEq, tyInt, tdInt, tyHull, tdHull, tyBoxes, tdBoxes, tyInts, tdInts, tyPairs, tdPairs, tyPair, tdPair, c_spec_PlanValid, c_spec_ApartOf, c_spec_ApartNeed, c_spec_l11Class, decide_false, room, Nat.reduceLeDiff, Nat.zero_le, storeAV, rowQ, ownInts, FT.of, FT.setf, elems, appAV_I, appI, srcI, ownI, anyI, sameR, appAV_P, appP, srcP, ownP, anyP, setAll, Value.cells, List.set_cons_succ, List.set_cons_zero, oneI, List.map_cons, List.map_nil]
    repeat (refine And.intro ?_ ?_; focus (first | exact ordP (by kernel_rfl) | with_reducible exact rfl | assumption | trivial | (simp only [inR]; omega) | omega | exact ⟨by omega, by omega⟩ | exact ⟨by omega, by omega, by omega⟩ | exact ⟨by omega, by assumption⟩ | exact ⟨by omega, ⟨by omega, by omega⟩, hok.inb _⟩ | exact (hok.inb _).resolve_left (by omega) | exact ⟨by omega, (hok.inb _).resolve_left (by omega)⟩ | exact hin2 (by assumption) (by omega) | exact hin2 (by omega) (by omega) | ((try simp only [decide_eq_true_eq, Bool.and_eq_true, ne_eq, decide_not, Bool.not_eq_true', Bool.not_eq_false', Bool.or_eq_false_iff, Bool.not_not, decide_eq_false_iff_not]); (try intro hh); (repeat' apply And.intro) <;> (first | omega | (simp only [inR]; omega) | assumption | exact ⟨by omega, by assumption⟩ | exact ⟨by omega, ⟨by omega, by omega⟩, hok.inb _⟩ | exact (hok.inb _).resolve_left (by omega) | exact ⟨by omega, (hok.inb _).resolve_left (by omega)⟩ | exact hin2 (by assumption) (by omega) | exact hin2 (by omega) (by omega) | exact hh.1 | exact hh.2 | exact hh.2.1 | exact hh.2.2 | exact hh.1.1 | exact hh.1.2 | (intro hq; exact ⟨hh, hq⟩) | (intro hq; exact ⟨hh.1, hq⟩) | (simp_all; done)))))
    refine hK6 _ ?_
    clear hK6
    refine W_re [(6, .own 66 .pair)] (by (try simp only [hnt, hnp]); rfl) ?_
    refine W_ret ?_
    simp only [thenQ, blockQ, loopQ, retQ, reduceIte, Nat.reduceEqDiff]
    refine ret1s 6 rfl rfl rfl ?_
    all_goals (
      first | (rw [nearR, if_pos hc5, hO, show a.toNat = p.length by omega]; done) | (rw [nearR, hc5]; rfl))
  · try simp only [decide_eq_true_eq, decide_eq_false_iff_not, ne_eq, Decidable.not_not, Bool.not_eq_true', Bool.not_eq_false', Bool.or_eq_true, Bool.and_eq_true, Bool.or_eq_false_iff, Bool.and_eq_false_iff] at hc5
    refine W_skip ?_
    simp only [thenQ, blockQ, loopQ, reduceIte, Nat.reduceEqDiff]
    refine hK3 _ ?_
    clear hK3
    refine W_seq (fun K7 hK7 => ?_)
    refine W_seq (fun K8 hK8 => ?_)
    refine W_region hT hG [] [1, 2, 3, 7, 8] ?_
    rw [hnt]
    simp only [baseS, eq_self, implies_true, if_true, if_false, reduceIte, Nat.reduceBEq, Nat.reduceEqDiff, Nat.reduceLT, Nat.reduceAdd, reduceCtorEq, tyInt, tdInt, tyHull, tdHull, tyBoxes, tdBoxes, tyInts, tdInts, tyPairs, tdPairs, tyPair, tdPair, c_spec_PlanValid, c_spec_ApartOf, c_spec_ApartNeed, c_spec_l11Class, decide_false, room, Nat.reduceLeDiff, Nat.zero_le, storeAV, rowQ, ownInts, FT.of, FT.setf, elems, appAV_I, appI, srcI, ownI, anyI, sameR, appAV_P, appP, srcP, ownP, anyP, setAll, Value.cells, List.set_cons_succ, List.set_cons_zero, oneI, List.map_cons, List.map_nil]
    repeat (refine And.intro ?_ ?_; focus (first | exact ordP (by kernel_rfl) | with_reducible exact rfl | assumption | trivial | (simp only [inR]; omega) | omega | exact ⟨by omega, by omega⟩ | exact ⟨by omega, by omega, by omega⟩ | exact ⟨by omega, by assumption⟩ | exact ⟨by omega, ⟨by omega, by omega⟩, hok.inb _⟩ | exact (hok.inb _).resolve_left (by omega) | exact ⟨by omega, (hok.inb _).resolve_left (by omega)⟩ | exact hin2 (by assumption) (by omega) | exact hin2 (by omega) (by omega) | ((try simp only [decide_eq_true_eq, Bool.and_eq_true, ne_eq, decide_not, Bool.not_eq_true', Bool.not_eq_false', Bool.or_eq_false_iff, Bool.not_not, decide_eq_false_iff_not]); (try intro hh); (repeat' apply And.intro) <;> (first | omega | (simp only [inR]; omega) | assumption | exact ⟨by omega, by assumption⟩ | exact ⟨by omega, ⟨by omega, by omega⟩, hok.inb _⟩ | exact (hok.inb _).resolve_left (by omega) | exact ⟨by omega, (hok.inb _).resolve_left (by omega)⟩ | exact hin2 (by assumption) (by omega) | exact hin2 (by omega) (by omega) | exact hh.1 | exact hh.2 | exact hh.2.1 | exact hh.2.2 | exact hh.1.1 | exact hh.1.2 | (intro hq; exact ⟨hh, hq⟩) | (intro hq; exact ⟨hh.1, hq⟩) | (simp_all; done)))))
    refine hK8 _ ?_
    clear hK8
    refine W_block ?_
    refine W_loop (α := Int × List PairD) [(1, .as), (2, .as), (3, .as), (7, .own 66 .pair), (8, .as)] (fun x => ⟨[(1, .rs .box bs), (2, .rs .i64 p), (3, .rp [.int b, .int r, .int t]), (7, .sl 7), (8, .int x.1)], [(7, some (.sl 66 .pair x.2))], 52⟩) (fun x => 0 ≤ x.1 ∧ x.1 ≤ p.length ∧ x.2 = catP r t bs p x.1.toNat) (fun x => (p.length - x.1).toNat) (0, []) ?_ ?_ ?_
    · (try simp only [hnt, hnp]); rfl
    · exact ⟨by omega, by omega, rfl⟩
    rintro ⟨a, out⟩ ⟨hi0, hi1, hO⟩
    dsimp only at hi0 hi1 hO ⊢
    have hok := planB_ok hc5
    have hle := hok.le
    have htt := hv_t hok.ship
    have hol : out.length ≤ 1296 := by
      rw [hO]
      have h1 := catP_len r t bs p a.toNat
      have h2 : a.toNat * p.length ≤ 36 * 36 := Nat.mul_le_mul (by omega) (by omega)
      omega
    refine W_seq (fun K10 hK10 => ?_)
    refine W_seq (fun K11 hK11 => ?_)
    refine W_region hT hG [] [1, 2, 3, 7, 8, 20] ?_
    rw [hnt]
    simp only [baseS, eq_self, implies_true, if_true, if_false, reduceIte, Nat.reduceBEq, Nat.reduceEqDiff, Nat.reduceLT, Nat.reduceAdd, reduceCtorEq, tyInt, tdInt, tyHull, tdHull, tyBoxes, tdBoxes, tyInts, tdInts, tyPairs, tdPairs, tyPair, tdPair, c_spec_PlanValid, c_spec_ApartOf, c_spec_ApartNeed, c_spec_l11Class, decide_false, room, Nat.reduceLeDiff, Nat.zero_le, storeAV, rowQ, ownInts, FT.of, FT.setf, elems, appAV_I, appI, srcI, ownI, anyI, sameR, appAV_P, appP, srcP, ownP, anyP, setAll, Value.cells, List.set_cons_succ, List.set_cons_zero, oneI, List.map_cons, List.map_nil]
    repeat (refine And.intro ?_ ?_; focus (first | exact ordP (by kernel_rfl) | with_reducible exact rfl | assumption | trivial | (simp only [inR]; omega) | omega | exact ⟨by omega, by omega⟩ | exact ⟨by omega, by omega, by omega⟩ | exact ⟨by omega, by assumption⟩ | exact ⟨by omega, ⟨by omega, by omega⟩, hok.inb _⟩ | exact (hok.inb _).resolve_left (by omega) | exact ⟨by omega, (hok.inb _).resolve_left (by omega)⟩ | exact hin2 (by assumption) (by omega) | exact hin2 (by omega) (by omega) | ((try simp only [decide_eq_true_eq, Bool.and_eq_true, ne_eq, decide_not, Bool.not_eq_true', Bool.not_eq_false', Bool.or_eq_false_iff, Bool.not_not, decide_eq_false_iff_not]); (try intro hh); (repeat' apply And.intro) <;> (first | omega | (simp only [inR]; omega) | assumption | exact ⟨by omega, by assumption⟩ | exact ⟨by omega, ⟨by omega, by omega⟩, hok.inb _⟩ | exact (hok.inb _).resolve_left (by omega) | exact ⟨by omega, (hok.inb _).resolve_left (by omega)⟩ | exact hin2 (by assumption) (by omega) | exact hin2 (by omega) (by omega) | exact hh.1 | exact hh.2 | exact hh.2.1 | exact hh.2.2 | exact hh.1.1 | exact hh.1.2 | (intro hq; exact ⟨hh, hq⟩) | (intro hq; exact ⟨hh.1, hq⟩) | (simp_all; done)))))
    refine hK11 _ ?_
    clear hK11
    refine W_cond (b := _) rfl (fun hc12 => ?_) (fun hc12 => ?_)
    · try simp only [decide_eq_true_eq, decide_eq_false_iff_not, ne_eq, Decidable.not_not, Bool.not_eq_true', Bool.not_eq_false', Bool.or_eq_true, Bool.and_eq_true, Bool.or_eq_false_iff, Bool.and_eq_false_iff] at hc12
      refine W_skip ?_
      simp only [thenQ, blockQ, loopQ, reduceIte, Nat.reduceEqDiff]
      refine hK10 _ ?_
      clear hK10
      refine W_seq (fun K13 hK13 => ?_)
      refine W_block ?_
      refine W_seq (fun K14 hK14 => ?_)
      refine W_region hT hG [] [1, 2, 3, 7, 8, 9] ?_
      rw [hnt]
      simp only [baseS, eq_self, implies_true, if_true, if_false, reduceIte, Nat.reduceBEq, Nat.reduceEqDiff, Nat.reduceLT, Nat.reduceAdd, reduceCtorEq, tyInt, tdInt, tyHull, tdHull, tyBoxes, tdBoxes, tyInts, tdInts, tyPairs, tdPairs, tyPair, tdPair, c_spec_PlanValid, c_spec_ApartOf, c_spec_ApartNeed, c_spec_l11Class, decide_false, room, Nat.reduceLeDiff, Nat.zero_le, storeAV, rowQ, ownInts, FT.of, FT.setf, elems, appAV_I, appI, srcI, ownI, anyI, sameR, appAV_P, appP, srcP, ownP, anyP, setAll, Value.cells, List.set_cons_succ, List.set_cons_zero, oneI, List.map_cons, List.map_nil]
      repeat (refine And.intro ?_ ?_; focus (first | exact ordP (by kernel_rfl) | with_reducible exact rfl | assumption | trivial | (simp only [inR]; omega) | omega | exact ⟨by omega, by omega⟩ | exact ⟨by omega, by omega, by omega⟩ | exact ⟨by omega, by assumption⟩ | exact ⟨by omega, ⟨by omega, by omega⟩, hok.inb _⟩ | exact (hok.inb _).resolve_left (by omega) | exact ⟨by omega, (hok.inb _).resolve_left (by omega)⟩ | exact hin2 (by assumption) (by omega) | exact hin2 (by omega) (by omega) | ((try simp only [decide_eq_true_eq, Bool.and_eq_true, ne_eq, decide_not, Bool.not_eq_true', Bool.not_eq_false', Bool.or_eq_false_iff, Bool.not_not, decide_eq_false_iff_not]); (try intro hh); (repeat' apply And.intro) <;> (first | omega | (simp only [inR]; omega) | assumption | exact ⟨by omega, by assumption⟩ | exact ⟨by omega, ⟨by omega, by omega⟩, hok.inb _⟩ | exact (hok.inb _).resolve_left (by omega) | exact ⟨by omega, (hok.inb _).resolve_left (by omega)⟩ | exact hin2 (by assumption) (by omega) | exact hin2 (by omega) (by omega) | exact hh.1 | exact hh.2 | exact hh.2.1 | exact hh.2.2 | exact hh.1.1 | exact hh.1.2 | (intro hq; exact ⟨hh, hq⟩) | (intro hq; exact ⟨hh.1, hq⟩) | (simp_all; done)))))
      refine hK14 _ ?_
      clear hK14
      refine W_block ?_
      refine W_loop (α := Int × List PairD) [(1, .as), (2, .as), (3, .as), (7, .own 66 .pair), (8, .as), (9, .as)] (fun y => ⟨[(1, .rs .box bs), (2, .rs .i64 p), (3, .rp [.int b, .int r, .int t]), (7, .sl 7), (8, .int (a)), (9, .int y.1)], [(7, some (.sl 66 .pair y.2))], 52⟩) (fun y => a + 1 ≤ y.1 ∧ y.1 ≤ p.length ∧ y.2.length ≤ 1296 + y.1 ∧ y.2 = out ++ rowP r t bs p (a).toNat y.1.toNat) (fun y => (p.length - y.1).toNat) (a + 1, out) ?_ ?_ ?_
      · (try simp only [hnt, hnp]); rfl
      · exact ⟨by omega, by dsimp only; omega, by dsimp only; omega, by rw [rowP_low _ _ _ _ _ _ (by dsimp only; omega), List.append_nil]⟩
      rintro ⟨q, o2⟩ ⟨hq0, hq1, hol2, hO2⟩
      dsimp only at hq0 hq1 hol2 hO2 ⊢
      have hst := rowP_step (r := r) (t := t) (bs := bs) (p := p) (a := a.toNat) (q := q) (by omega)
      rw [Int.toNat_of_nonneg hi0] at hst
      refine W_seq (fun K16 hK16 => ?_)
      refine W_seq (fun K17 hK17 => ?_)
      refine W_region hT hG [] [1, 2, 3, 7, 8, 9, 28] ?_
      rw [hnt]
      simp only [baseS, eq_self, implies_true, if_true, if_false, reduceIte, Nat.reduceBEq, Nat.reduceEqDiff, Nat.reduceLT, Nat.reduceAdd, reduceCtorEq, tyInt, tdInt, tyHull, tdHull, tyBoxes, tdBoxes, tyInts, tdInts, tyPairs, tdPairs, tyPair, tdPair, c_spec_PlanValid, c_spec_ApartOf, c_spec_ApartNeed, c_spec_l11Class, decide_false, room, Nat.reduceLeDiff, Nat.zero_le, storeAV, rowQ, ownInts, FT.of, FT.setf, elems, appAV_I, appI, srcI, ownI, anyI, sameR, appAV_P, appP, srcP, ownP, anyP, setAll, Value.cells, List.set_cons_succ, List.set_cons_zero, oneI, List.map_cons, List.map_nil]
      repeat (refine And.intro ?_ ?_; focus (first | exact ordP (by kernel_rfl) | with_reducible exact rfl | assumption | trivial | (simp only [inR]; omega) | omega | exact ⟨by omega, by omega⟩ | exact ⟨by omega, by omega, by omega⟩ | exact ⟨by omega, by assumption⟩ | exact ⟨by omega, ⟨by omega, by omega⟩, hok.inb _⟩ | exact (hok.inb _).resolve_left (by omega) | exact ⟨by omega, (hok.inb _).resolve_left (by omega)⟩ | exact hin2 (by assumption) (by omega) | exact hin2 (by omega) (by omega) | ((try simp only [decide_eq_true_eq, Bool.and_eq_true, ne_eq, decide_not, Bool.not_eq_true', Bool.not_eq_false', Bool.or_eq_false_iff, Bool.not_not, decide_eq_false_iff_not]); (try intro hh); (repeat' apply And.intro) <;> (first | omega | (simp only [inR]; omega) | assumption | exact ⟨by omega, by assumption⟩ | exact ⟨by omega, ⟨by omega, by omega⟩, hok.inb _⟩ | exact (hok.inb _).resolve_left (by omega) | exact ⟨by omega, (hok.inb _).resolve_left (by omega)⟩ | exact hin2 (by assumption) (by omega) | exact hin2 (by omega) (by omega) | exact hh.1 | exact hh.2 | exact hh.2.1 | exact hh.2.2 | exact hh.1.1 | exact hh.1.2 | (intro hq; exact ⟨hh, hq⟩) | (intro hq; exact ⟨hh.1, hq⟩) | (simp_all; done)))))
      refine hK17 _ ?_
      clear hK17
      refine W_cond (b := _) rfl (fun hc18 => ?_) (fun hc18 => ?_)
      · try simp only [decide_eq_true_eq, decide_eq_false_iff_not, ne_eq, Decidable.not_not, Bool.not_eq_true', Bool.not_eq_false', Bool.or_eq_true, Bool.and_eq_true, Bool.or_eq_false_iff, Bool.and_eq_false_iff] at hc18
        refine W_skip ?_
        simp only [thenQ, blockQ, loopQ, reduceIte, Nat.reduceEqDiff]
        refine hK16 _ ?_
        clear hK16
        refine W_seq (fun K19 hK19 => ?_)
        refine W_block ?_
        refine W_seq (fun K20 hK20 => ?_)
        refine W_region hT hG [] [1, 2, 3, 7, 8, 9, 44] ?_
        rw [hnt]
        have hap : apartOf b r t a q = apD r t a q := by unfold apartOf; rw [if_pos (by rw [slot_in hok hi0 (by omega), slot_in hok (show 0 ≤ q by omega) (by omega)]; rfl)]
        simp only [baseS, eq_self, implies_true, if_true, if_false, reduceIte, Nat.reduceBEq, Nat.reduceEqDiff, Nat.reduceLT, Nat.reduceAdd, reduceCtorEq, tyInt, tdInt, tyHull, tdHull, tyBoxes, tdBoxes, tyInts, tdInts, tyPairs, tdPairs, tyPair, tdPair, c_spec_PlanValid, c_spec_ApartOf, c_spec_ApartNeed, c_spec_l11Class, decide_false, room, Nat.reduceLeDiff, Nat.zero_le, storeAV, rowQ, ownInts, FT.of, FT.setf, elems, appAV_I, appI, srcI, ownI, anyI, sameR, appAV_P, appP, srcP, ownP, anyP, setAll, Value.cells, List.set_cons_succ, List.set_cons_zero, oneI, List.map_cons, List.map_nil]
        repeat (refine And.intro ?_ ?_; focus (first | exact ordP (by kernel_rfl) | with_reducible exact rfl | assumption | trivial | (simp only [inR]; omega) | omega | exact ⟨by omega, by omega⟩ | exact ⟨by omega, by omega, by omega⟩ | exact ⟨by omega, by assumption⟩ | exact ⟨by omega, ⟨by omega, by omega⟩, hok.inb _⟩ | exact (hok.inb _).resolve_left (by omega) | exact ⟨by omega, (hok.inb _).resolve_left (by omega)⟩ | exact hin2 (by assumption) (by omega) | exact hin2 (by omega) (by omega) | ((try simp only [decide_eq_true_eq, Bool.and_eq_true, ne_eq, decide_not, Bool.not_eq_true', Bool.not_eq_false', Bool.or_eq_false_iff, Bool.not_not, decide_eq_false_iff_not]); (try intro hh); (repeat' apply And.intro) <;> (first | omega | (simp only [inR]; omega) | assumption | exact ⟨by omega, by assumption⟩ | exact ⟨by omega, ⟨by omega, by omega⟩, hok.inb _⟩ | exact (hok.inb _).resolve_left (by omega) | exact ⟨by omega, (hok.inb _).resolve_left (by omega)⟩ | exact hin2 (by assumption) (by omega) | exact hin2 (by omega) (by omega) | exact hh.1 | exact hh.2 | exact hh.2.1 | exact hh.2.2 | exact hh.1.1 | exact hh.1.2 | (intro hq; exact ⟨hh, hq⟩) | (intro hq; exact ⟨hh.1, hq⟩) | (simp_all; done)))))
        refine hK20 _ ?_
        clear hK20
        refine W_cond (b := _) rfl (fun hc21 => ?_) (fun hc21 => ?_)
        · try simp only [decide_eq_true_eq, decide_eq_false_iff_not, ne_eq, Decidable.not_not, Bool.not_eq_true', Bool.not_eq_false', Bool.or_eq_true, Bool.and_eq_true, Bool.or_eq_false_iff, Bool.and_eq_false_iff] at hc21
          refine W_region hT hG [] [1, 2, 3, 7, 8, 9] ?_
          rw [hnt]
          simp only [baseS, eq_self, implies_true, if_true, if_false, reduceIte, Nat.reduceBEq, Nat.reduceEqDiff, Nat.reduceLT, Nat.reduceAdd, reduceCtorEq, tyInt, tdInt, tyHull, tdHull, tyBoxes, tdBoxes, tyInts, tdInts, tyPairs, tdPairs, tyPair, tdPair, c_spec_PlanValid, c_spec_ApartOf, c_spec_ApartNeed, c_spec_l11Class, decide_false, room, Nat.reduceLeDiff, Nat.zero_le, storeAV, rowQ, ownInts, FT.of, FT.setf, elems, appAV_I, appI, srcI, ownI, anyI, sameR, appAV_P, appP, srcP, ownP, anyP, setAll, Value.cells, List.set_cons_succ, List.set_cons_zero, oneI, List.map_cons, List.map_nil]
          repeat (refine And.intro ?_ ?_; focus (first | exact ordP (by kernel_rfl) | with_reducible exact rfl | assumption | trivial | (simp only [inR]; omega) | omega | exact ⟨by omega, by omega⟩ | exact ⟨by omega, by omega, by omega⟩ | exact ⟨by omega, by assumption⟩ | exact ⟨by omega, ⟨by omega, by omega⟩, hok.inb _⟩ | exact (hok.inb _).resolve_left (by omega) | exact ⟨by omega, (hok.inb _).resolve_left (by omega)⟩ | exact hin2 (by assumption) (by omega) | exact hin2 (by omega) (by omega) | ((try simp only [decide_eq_true_eq, Bool.and_eq_true, ne_eq, decide_not, Bool.not_eq_true', Bool.not_eq_false', Bool.or_eq_false_iff, Bool.not_not, decide_eq_false_iff_not]); (try intro hh); (repeat' apply And.intro) <;> (first | omega | (simp only [inR]; omega) | assumption | exact ⟨by omega, by assumption⟩ | exact ⟨by omega, ⟨by omega, by omega⟩, hok.inb _⟩ | exact (hok.inb _).resolve_left (by omega) | exact ⟨by omega, (hok.inb _).resolve_left (by omega)⟩ | exact hin2 (by assumption) (by omega) | exact hin2 (by omega) (by omega) | exact hh.1 | exact hh.2 | exact hh.2.1 | exact hh.2.2 | exact hh.1.1 | exact hh.1.2 | (intro hq; exact ⟨hh, hq⟩) | (intro hq; exact ⟨hh.1, hq⟩) | (simp_all; done)))))
          refine hK19 _ ?_
          clear hK19
          refine W_region hT hG [] [1, 2, 3, 7, 8, 9] ?_
          rw [hnt]
          simp only [baseS, eq_self, implies_true, if_true, if_false, reduceIte, Nat.reduceBEq, Nat.reduceEqDiff, Nat.reduceLT, Nat.reduceAdd, reduceCtorEq, tyInt, tdInt, tyHull, tdHull, tyBoxes, tdBoxes, tyInts, tdInts, tyPairs, tdPairs, tyPair, tdPair, c_spec_PlanValid, c_spec_ApartOf, c_spec_ApartNeed, c_spec_l11Class, decide_false, room, Nat.reduceLeDiff, Nat.zero_le, storeAV, rowQ, ownInts, FT.of, FT.setf, elems, appAV_I, appI, srcI, ownI, anyI, sameR, appAV_P, appP, srcP, ownP, anyP, setAll, Value.cells, List.set_cons_succ, List.set_cons_zero, oneI, List.map_cons, List.map_nil]
          repeat (refine And.intro ?_ ?_; focus (first | exact ordP (by kernel_rfl) | with_reducible exact rfl | assumption | trivial | (simp only [inR]; omega) | omega | exact ⟨by omega, by omega⟩ | exact ⟨by omega, by omega, by omega⟩ | exact ⟨by omega, by assumption⟩ | exact ⟨by omega, ⟨by omega, by omega⟩, hok.inb _⟩ | exact (hok.inb _).resolve_left (by omega) | exact ⟨by omega, (hok.inb _).resolve_left (by omega)⟩ | exact hin2 (by assumption) (by omega) | exact hin2 (by omega) (by omega) | ((try simp only [decide_eq_true_eq, Bool.and_eq_true, ne_eq, decide_not, Bool.not_eq_true', Bool.not_eq_false', Bool.or_eq_false_iff, Bool.not_not, decide_eq_false_iff_not]); (try intro hh); (repeat' apply And.intro) <;> (first | omega | (simp only [inR]; omega) | assumption | exact ⟨by omega, by assumption⟩ | exact ⟨by omega, ⟨by omega, by omega⟩, hok.inb _⟩ | exact (hok.inb _).resolve_left (by omega) | exact ⟨by omega, (hok.inb _).resolve_left (by omega)⟩ | exact hin2 (by assumption) (by omega) | exact hin2 (by omega) (by omega) | exact hh.1 | exact hh.2 | exact hh.2.1 | exact hh.2.2 | exact hh.1.1 | exact hh.1.2 | (intro hq; exact ⟨hh, hq⟩) | (intro hq; exact ⟨hh.1, hq⟩) | (simp_all; done)))))
          have hni := near_s (r := r) (t := t) (p := p) hok.boxes hok.inb hi0 (show 0 ≤ q by omega) (by omega)
          rw [hap] at hc21
          first
          | (refine ⟨(q + 1, o2 ++ [⟨a, q⟩]), (by (try simp only [hnt, hnp]); rfl), ⟨by dsimp only; omega, by dsimp only; omega, by dsimp only; rw [List.length_append, List.length_singleton]; omega, by dsimp only; rw [hst, if_pos (by rw [hni, decide_eq_true hc21]), hO2, List.append_assoc]⟩, by dsimp only; omega⟩)
          | (refine ⟨(q + 1, o2), (by (try simp only [hnt, hnp]); rfl), ⟨by dsimp only; omega, by dsimp only; omega, by dsimp only; omega, by dsimp only; rw [hst, if_neg (by rw [hni, decide_eq_false hc21]; simp), hO2]⟩, by dsimp only; omega⟩)
        · try simp only [decide_eq_true_eq, decide_eq_false_iff_not, ne_eq, Decidable.not_not, Bool.not_eq_true', Bool.not_eq_false', Bool.or_eq_true, Bool.and_eq_true, Bool.or_eq_false_iff, Bool.and_eq_false_iff] at hc21
          refine W_skip ?_
          simp only [thenQ, blockQ, loopQ, reduceIte, Nat.reduceEqDiff]
          refine hK19 _ ?_
          clear hK19
          refine W_region hT hG [] [1, 2, 3, 7, 8, 9] ?_
          rw [hnt]
          simp only [baseS, eq_self, implies_true, if_true, if_false, reduceIte, Nat.reduceBEq, Nat.reduceEqDiff, Nat.reduceLT, Nat.reduceAdd, reduceCtorEq, tyInt, tdInt, tyHull, tdHull, tyBoxes, tdBoxes, tyInts, tdInts, tyPairs, tdPairs, tyPair, tdPair, c_spec_PlanValid, c_spec_ApartOf, c_spec_ApartNeed, c_spec_l11Class, decide_false, room, Nat.reduceLeDiff, Nat.zero_le, storeAV, rowQ, ownInts, FT.of, FT.setf, elems, appAV_I, appI, srcI, ownI, anyI, sameR, appAV_P, appP, srcP, ownP, anyP, setAll, Value.cells, List.set_cons_succ, List.set_cons_zero, oneI, List.map_cons, List.map_nil]
          repeat (refine And.intro ?_ ?_; focus (first | exact ordP (by kernel_rfl) | with_reducible exact rfl | assumption | trivial | (simp only [inR]; omega) | omega | exact ⟨by omega, by omega⟩ | exact ⟨by omega, by omega, by omega⟩ | exact ⟨by omega, by assumption⟩ | exact ⟨by omega, ⟨by omega, by omega⟩, hok.inb _⟩ | exact (hok.inb _).resolve_left (by omega) | exact ⟨by omega, (hok.inb _).resolve_left (by omega)⟩ | exact hin2 (by assumption) (by omega) | exact hin2 (by omega) (by omega) | ((try simp only [decide_eq_true_eq, Bool.and_eq_true, ne_eq, decide_not, Bool.not_eq_true', Bool.not_eq_false', Bool.or_eq_false_iff, Bool.not_not, decide_eq_false_iff_not]); (try intro hh); (repeat' apply And.intro) <;> (first | omega | (simp only [inR]; omega) | assumption | exact ⟨by omega, by assumption⟩ | exact ⟨by omega, ⟨by omega, by omega⟩, hok.inb _⟩ | exact (hok.inb _).resolve_left (by omega) | exact ⟨by omega, (hok.inb _).resolve_left (by omega)⟩ | exact hin2 (by assumption) (by omega) | exact hin2 (by omega) (by omega) | exact hh.1 | exact hh.2 | exact hh.2.1 | exact hh.2.2 | exact hh.1.1 | exact hh.1.2 | (intro hq; exact ⟨hh, hq⟩) | (intro hq; exact ⟨hh.1, hq⟩) | (simp_all; done)))))
          have hni := near_s (r := r) (t := t) (p := p) hok.boxes hok.inb hi0 (show 0 ≤ q by omega) (by omega)
          rw [hap] at hc21
          first
          | (refine ⟨(q + 1, o2 ++ [⟨a, q⟩]), (by (try simp only [hnt, hnp]); rfl), ⟨by dsimp only; omega, by dsimp only; omega, by dsimp only; rw [List.length_append, List.length_singleton]; omega, by dsimp only; rw [hst, if_pos (by rw [hni, decide_eq_true hc21]), hO2, List.append_assoc]⟩, by dsimp only; omega⟩)
          | (refine ⟨(q + 1, o2), (by (try simp only [hnt, hnp]); rfl), ⟨by dsimp only; omega, by dsimp only; omega, by dsimp only; omega, by dsimp only; rw [hst, if_neg (by rw [hni, decide_eq_false hc21]; simp), hO2]⟩, by dsimp only; omega⟩)
      · try simp only [decide_eq_true_eq, decide_eq_false_iff_not, ne_eq, Decidable.not_not, Bool.not_eq_true', Bool.not_eq_false', Bool.or_eq_true, Bool.and_eq_true, Bool.or_eq_false_iff, Bool.and_eq_false_iff] at hc18
        refine W_exit ?_
        simp only [thenQ, blockQ, loopQ, reduceIte, Nat.reduceEqDiff]
        refine hK13 _ ?_
        clear hK13
        refine W_region hT hG [] [1, 2, 3, 7, 8] ?_
        rw [hnt]
        simp only [baseS, eq_self, implies_true, if_true, if_false, reduceIte, Nat.reduceBEq, Nat.reduceEqDiff, Nat.reduceLT, Nat.reduceAdd, reduceCtorEq, tyInt, tdInt, tyHull, tdHull, tyBoxes, tdBoxes, tyInts, tdInts, tyPairs, tdPairs, tyPair, tdPair, c_spec_PlanValid, c_spec_ApartOf, c_spec_ApartNeed, c_spec_l11Class, decide_false, room, Nat.reduceLeDiff, Nat.zero_le, storeAV, rowQ, ownInts, FT.of, FT.setf, elems, appAV_I, appI, srcI, ownI, anyI, sameR, appAV_P, appP, srcP, ownP, anyP, setAll, Value.cells, List.set_cons_succ, List.set_cons_zero, oneI, List.map_cons, List.map_nil]
        repeat (refine And.intro ?_ ?_; focus (first | exact ordP (by kernel_rfl) | with_reducible exact rfl | assumption | trivial | (simp only [inR]; omega) | omega | exact ⟨by omega, by omega⟩ | exact ⟨by omega, by omega, by omega⟩ | exact ⟨by omega, by assumption⟩ | exact ⟨by omega, ⟨by omega, by omega⟩, hok.inb _⟩ | exact (hok.inb _).resolve_left (by omega) | exact ⟨by omega, (hok.inb _).resolve_left (by omega)⟩ | exact hin2 (by assumption) (by omega) | exact hin2 (by omega) (by omega) | ((try simp only [decide_eq_true_eq, Bool.and_eq_true, ne_eq, decide_not, Bool.not_eq_true', Bool.not_eq_false', Bool.or_eq_false_iff, Bool.not_not, decide_eq_false_iff_not]); (try intro hh); (repeat' apply And.intro) <;> (first | omega | (simp only [inR]; omega) | assumption | exact ⟨by omega, by assumption⟩ | exact ⟨by omega, ⟨by omega, by omega⟩, hok.inb _⟩ | exact (hok.inb _).resolve_left (by omega) | exact ⟨by omega, (hok.inb _).resolve_left (by omega)⟩ | exact hin2 (by assumption) (by omega) | exact hin2 (by omega) (by omega) | exact hh.1 | exact hh.2 | exact hh.2.1 | exact hh.2.2 | exact hh.1.1 | exact hh.1.2 | (intro hq; exact ⟨hh, hq⟩) | (intro hq; exact ⟨hh.1, hq⟩) | (simp_all; done)))))
        refine ⟨(a + 1, o2), (by (try simp only [hnt, hnp]); rfl), ⟨by dsimp only; omega, by dsimp only; omega, by dsimp only; rw [show (a + 1).toNat = a.toNat + 1 by omega, catP, hO2, hO, show q.toNat = p.length by omega]⟩, by dsimp only; omega⟩
    · try simp only [decide_eq_true_eq, decide_eq_false_iff_not, ne_eq, Decidable.not_not, Bool.not_eq_true', Bool.not_eq_false', Bool.or_eq_true, Bool.and_eq_true, Bool.or_eq_false_iff, Bool.and_eq_false_iff] at hc12
      refine W_exit ?_
      simp only [thenQ, blockQ, loopQ, reduceIte, Nat.reduceEqDiff]
      refine hK7 _ ?_
      clear hK7
      refine W_seq (fun K22 hK22 => ?_)
      refine W_region hT hG [] [6] ?_
      rw [hnt]
      simp only [baseS, eq_self, implies_true, if_true, if_false, reduceIte, Nat.reduceBEq, Nat.reduceEqDiff, Nat.reduceLT, Nat.reduceAdd, reduceCtorEq, tyInt, tdInt, tyHull, tdHull, tyBoxes, tdBoxes, tyInts, tdInts, tyPairs, tdPairs, tyPair, tdPair, c_spec_PlanValid, c_spec_ApartOf, c_spec_ApartNeed, c_spec_l11Class, decide_false, room, Nat.reduceLeDiff, Nat.zero_le, storeAV, rowQ, ownInts, FT.of, FT.setf, elems, appAV_I, appI, srcI, ownI, anyI, sameR, appAV_P, appP, srcP, ownP, anyP, setAll, Value.cells, List.set_cons_succ, List.set_cons_zero, oneI, List.map_cons, List.map_nil]
      repeat (refine And.intro ?_ ?_; focus (first | exact ordP (by kernel_rfl) | with_reducible exact rfl | assumption | trivial | (simp only [inR]; omega) | omega | exact ⟨by omega, by omega⟩ | exact ⟨by omega, by omega, by omega⟩ | exact ⟨by omega, by assumption⟩ | exact ⟨by omega, ⟨by omega, by omega⟩, hok.inb _⟩ | exact (hok.inb _).resolve_left (by omega) | exact ⟨by omega, (hok.inb _).resolve_left (by omega)⟩ | exact hin2 (by assumption) (by omega) | exact hin2 (by omega) (by omega) | ((try simp only [decide_eq_true_eq, Bool.and_eq_true, ne_eq, decide_not, Bool.not_eq_true', Bool.not_eq_false', Bool.or_eq_false_iff, Bool.not_not, decide_eq_false_iff_not]); (try intro hh); (repeat' apply And.intro) <;> (first | omega | (simp only [inR]; omega) | assumption | exact ⟨by omega, by assumption⟩ | exact ⟨by omega, ⟨by omega, by omega⟩, hok.inb _⟩ | exact (hok.inb _).resolve_left (by omega) | exact ⟨by omega, (hok.inb _).resolve_left (by omega)⟩ | exact hin2 (by assumption) (by omega) | exact hin2 (by omega) (by omega) | exact hh.1 | exact hh.2 | exact hh.2.1 | exact hh.2.2 | exact hh.1.1 | exact hh.1.2 | (intro hq; exact ⟨hh, hq⟩) | (intro hq; exact ⟨hh.1, hq⟩) | (simp_all; done)))))
      refine hK22 _ ?_
      clear hK22
      refine W_re [(6, .own 66 .pair)] (by (try simp only [hnt, hnp]); rfl) ?_
      refine W_ret ?_
      simp only [thenQ, blockQ, loopQ, retQ, reduceIte, Nat.reduceEqDiff]
      refine ret1s 6 rfl rfl rfl ?_
      all_goals (
        first | (rw [nearR, if_pos hc5, hO, show a.toNat = p.length by omega]; done) | (rw [nearR, hc12]; rfl))

end Go.Proofs.Ytjkghldkemoddaa
