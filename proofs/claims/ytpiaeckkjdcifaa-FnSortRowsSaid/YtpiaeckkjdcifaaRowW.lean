/- Walks over the weights of rows. No condition. -/
import Derived.Test.YtpiaeckkjdcifaaLoadA
namespace Go.Proofs.Ytpiaeckkjdcifaa
open Go
set_option linter.unusedVariables false
set_option linter.unusedSimpArgs false

theorem rowsW_zero (t : Int) (bs : List BoxD) (p : List Int) (m : Nat) : rowsW t bs p m 0 = List.replicate m 0 := by
  apply List.ext_getElem
  · simp [rowsW]
  · intro j h1 h2
    simp [rowsW, rowW, sumTo]
theorem rowsW_snoc (t : Int) (bs : List BoxD) (p : List Int) (m n : Nat) : rowsW t bs p (m + 1) n = rowsW t bs p m n ++ [rowW t bs p (m : Int) n] := by
  simp [rowsW, List.range_succ]
theorem rowW_le {b r t : Int} {bs : List BoxD} {p : List Int} (h : PlanOK b r t bs p) (q : Int) (n : Nat) : -(30 * n) ≤ rowW t bs p q n ∧ rowW t bs p q n ≤ 30 * n := by
  refine sumTo_le _ 30 (fun k => ?_) n
  have := wAt_le h.boxes (h.inb k)
  split <;> omega
theorem PlanOK.stack {b r t : Int} {bs : List BoxD} {p : List Int} (h : PlanOK b r t bs p) {i : Int} (h0 : 0 ≤ i) (h1 : i < p.length) : 0 ≤ i / t ∧ i / t < b * r := by
  have ht := hv_t h.ship
  have := h.len
  refine ⟨Int.ediv_nonneg h0 (by omega), ?_⟩
  rw [Int.ediv_lt_iff_lt_mul (by omega)]; omega
def rowsR (b r t : Int) (bs : List BoxD) (p : List Int) : List Int := if planB b r t bs p = true then rowsW t bs p (b * r).toNat p.length else []
theorem br_box {b r t : Int} (h : hv b r t = true) : 1 ≤ b * r ∧ b * r ≤ 12 := by
  have := hv_box h; omega
theorem rowsR_len {b r t : Int} {bs : List BoxD} {p : List Int} (h : planB b r t bs p = true) : 1 ≤ (rowsR b r t bs p).length ∧ (rowsR b r t bs p).length ≤ 12 := by
  rw [rowsR, if_pos h, rowsW_len]
  have := br_box (planB_ok h).ship
  omega
theorem rowsR_le (b r t : Int) (bs : List BoxD) (p : List Int) : (rowsR b r t bs p).length ≤ 12 := by
  cases h : planB b r t bs p with
  | true => have := rowsR_len h; omega
  | false => rw [rowsR, h]; simp
theorem rows_end {b r t : Int} {bs : List BoxD} {p : List Int} (h : PlanOK b r t bs p) {q : Int} (hq : q = p.length) : (q / t).toNat = (b * r).toNat := by
  have ht := hv_t h.ship
  rw [hq, h.len, Int.mul_ediv_cancel _ (by omega)]
theorem row_full {b r t : Int} {bs : List BoxD} {p : List Int} (h : PlanOK b r t bs p) {q k : Int} (h0 : 0 ≤ q) (hq : q % t = 0) (hk : k = q + t) (hl : q + t ≤ p.length) {out : List Int} {s : Int} (ho : out = rowsW t bs p (q / t).toNat p.length) (hs : s = rowW t bs p (q / t) k.toNat) : out ++ [s] = rowsW t bs p ((q + t) / t).toNat p.length := by
  have ht := hv_t h.ship
  have h1 := Int.mul_ediv_add_emod q t
  have hm : q / t * t = q := by rw [Int.mul_comm]; omega
  have e1 : (q + t) / t = q / t + 1 := by rw [Int.add_ediv_of_dvd_right (Int.dvd_refl t), Int.ediv_self (by omega)]
  have hq0 : 0 ≤ q / t := Int.ediv_nonneg h0 (by omega)
  have e2 : (q / t + 1).toNat = (q / t).toNat + 1 := by omega
  rw [e1, e2, rowsW_snoc, ho, hs]
  have e3 : (((q / t).toNat : Nat) : Int) = q / t := by omega
  have e4 : p.length = k.toNat + (p.length - k.toNat) := by omega
  rw [e3, e4, rowW_high (q := q / t) (by omega) k.toNat (by omega)]
theorem rowW_start {t q : Int} {bs : List BoxD} {p : List Int} (ht : 1 ≤ t) (h0 : 0 ≤ q) (hq : q % t = 0) : rowW t bs p (q / t) q.toNat = 0 := by
  have h1 := Int.mul_ediv_add_emod q t
  exact rowW_low ht _ (by rw [Int.mul_comm]; omega)
theorem row_same {t q k : Int} (ht : 1 ≤ t) (hq : q % t = 0) (h1 : q ≤ k) (h2 : k < q + t) : k / t = q / t := by
  have h3 := Int.mul_ediv_add_emod q t
  rw [show k = (k - q) + t * (q / t) by omega, Int.add_mul_ediv_left _ _ (by omega), Int.ediv_eq_zero_of_lt (by omega) (by omega)]
  omega
/-- The greatest of a list, and of a number. -/
def maxF : List Int → Int → Int
  | [], m => m
  | x :: xs, m => maxF xs (max m x)
theorem maxF_step {a : List Int} {i m : Int} (h0 : 0 ≤ i) (h : i < a.length) : maxF (a.drop i.toNat) m = maxF (a.drop (i + 1).toNat) (max m (a.getD i.toNat 0)) := by
  have ha : i.toNat < a.length := by omega
  have e : (i + 1).toNat = i.toNat + 1 := by omega
  rw [List.drop_eq_getElem_cons ha, maxF, e, List.getD_eq_getElem?_getD, List.getElem?_eq_getElem ha]
  rfl
theorem maxF_end {a : List Int} {i m : Int} (h : ¬ i < a.length) : maxF (a.drop i.toNat) m = m := by
  rw [List.drop_eq_nil_of_le (by omega)]; rfl
theorem maxF_le : ∀ (a : List Int) (m k : Int), maxF a m ≤ k ↔ m ≤ k ∧ ∀ x ∈ a, x ≤ k
  | [], m, k => by simp [maxF]
  | x :: xs, m, k => by
    rw [maxF, maxF_le xs]
    simp only [List.mem_cons, forall_eq_or_imp]
    constructor
    · rintro ⟨h1, h2⟩; exact ⟨by omega, by omega, h2⟩
    · rintro ⟨h1, h2, h3⟩; exact ⟨by omega, h3⟩
def bearB (b r t : Int) (bs : List BoxD) (p : List Int) (m : Int) : Bool := planB b r t bs p && (rowsR b r t bs p).all fun x => decide (x ≤ m)
theorem bear_max {b r t : Int} {bs : List BoxD} {p : List Int} {m : Int} (h : planB b r t bs p = true) : decide (maxF ((rowsR b r t bs p).drop 1) ((rowsR b r t bs p).getD 0 0) ≤ m) = bearB b r t bs p m := by
  have hl := rowsR_len h
  rw [bearB, h, Bool.true_and]
  cases hr : rowsR b r t bs p with
  | nil => rw [hr] at hl; simp at hl
  | cons x xs =>
    rw [Bool.eq_iff_iff, decide_eq_true_eq, maxF_le, List.all_eq_true]
    simp
theorem bear_no {b r t : Int} {bs : List BoxD} {p : List Int} {m i : Int} (h0 : 0 ≤ i) (h1 : i < (rowsR b r t bs p).length) (h : m < (rowsR b r t bs p).getD i.toNat 0) : false = bearB b r t bs p m := by
  symm
  cases hb : bearB b r t bs p m with
  | false => rfl
  | true =>
    exfalso
    simp only [bearB, Bool.and_eq_true, List.all_eq_true, decide_eq_true_eq] at hb
    have hi : i.toNat < (rowsR b r t bs p).length := by omega
    have := hb.2 _ (List.getElem_mem hi)
    rw [List.getD_eq_getElem?_getD, List.getElem?_eq_getElem hi] at h
    simp only [Option.getD_some] at h
    omega
theorem bear_yes {b r t : Int} {bs : List BoxD} {p : List Int} {m i : Int} (h : ∀ k : Nat, (k : Int) < i → (rowsR b r t bs p).getD k 0 ≤ m) (h1 : ¬ i < (rowsR b r t bs p).length) : decide (0 < ((rowsR b r t bs p).length : Int)) = bearB b r t bs p m := by
  cases hb : planB b r t bs p with
  | false => rw [bearB, hb, rowsR, hb]; rfl
  | true =>
    have hl := rowsR_len hb
    rw [bearB, hb, Bool.true_and, decide_eq_true (by omega)]
    symm
    rw [List.all_eq_true]
    intro x hx
    obtain ⟨k, hk, rfl⟩ := List.getElem_of_mem hx
    have := h k (by omega)
    rw [List.getD_eq_getElem?_getD, List.getElem?_eq_getElem hk] at this
    simpa using this
theorem bear_next {l : List Int} {m i : Int} (h0 : 0 ≤ i) (h : ∀ k : Nat, (k : Int) < i → l.getD k 0 ≤ m) (h1 : l.getD i.toNat 0 ≤ m) : ∀ k : Nat, (k : Int) < i + 1 → l.getD k 0 ≤ m := by
  intro k hk
  by_cases e : (k : Int) = i
  · have e2 : k = i.toNat := by omega
    rw [e2]; exact h1
  · exact h k (by omega)

def c_impl_RowWeights : Ctr where
  modes := [.v .p, .v (.r .box), .v (.r .i64)]
  al := false
  run := fun xs os => match xs, os with
    | [.agg [.int b, .int r, .int t], .rs .box bs, .rs .i64 p], [] => some ⟨bs.length ≤ 9223372036854775807 ∧ p.length ≤ 9223372036854775807, .sl 0, [.sl 3 .i64 (rowsR b r t bs p)], []⟩
    | _, _ => none
theorem m_impl_RowWeights : Meets Try.prog 49 c_impl_RowWeights := by
  refine meets_of (T := tyT) tyOK Try.func49 (by rfl) rfl (by decide) ?_
  intro args owns R hrun hpre
  simp only [c_impl_RowWeights] at hrun
  split at hrun
  case h_2 => cases hrun
  rename_i b r t bs p
  cases hrun
  try dsimp only at hpre
  refine ⟨_, rfl, fun E hP hnt hnp => ?_⟩
  replace hnt : E.nt = 41 := hnt
  replace hnp : E.np = 3 := hnp
  have hT : ∀ t d, tyT t = some d → TyOK E.P t d := hP ▸ tyOK
  have hG : ∀ f C, Γof [(47, c_impl_PlanValid), (89, c_impl_Hull_stack), (95, c_impl_weightAt)] f = some C → Meets E.P f C := hΓof (by rw [hP]; exact ⟨m_impl_PlanValid, m_impl_Hull_stack, m_impl_weightAt, trivial⟩)
  try simp only [show Try.f49.ntmps = 41 from rfl]
  have hbs := hpre.1
  have hp := hpre.2
  have hbr0 := @br_box b r t
  refine W_seq (fun K1 hK1 => ?_)
  refine W_region hT hG [] [1, 2, 3] ?_
  rw [hnt]
  simp only [baseS, eq_self, implies_true, if_true, if_false, reduceIte, Nat.reduceBEq, Nat.reduceEqDiff, Nat.reduceLT, Nat.reduceAdd, reduceCtorEq, tyInt, tdInt, tyInts, tdInts, tyHull, tdHull, tyBoxes, tdBoxes, c_impl_PlanValid, c_impl_Hull_stack, c_impl_weightAt, decide_false, room, Nat.reduceLeDiff, Nat.zero_le, storeAV, rowQ, ownInts, FT.of, FT.setf, elems, appAV_I, appI, srcI, ownI, anyI, sameR, appAV_P, appP, srcP, ownP, anyP]
  repeat (refine And.intro ?_ ?_; focus (first | exact ordP (by kernel_rfl) | with_reducible exact rfl | assumption | trivial | (simp only [inR]; omega) | omega | exact ⟨by omega, by omega⟩ | exact ⟨by omega, by omega, by omega⟩ | exact ⟨by omega, hok.inb _⟩ | exact ⟨by omega, ⟨by omega, by omega⟩, hok.inb _⟩ | ((try simp only [decide_eq_true_eq, Bool.and_eq_true, ne_eq, decide_not, Bool.not_eq_true', Bool.not_eq_false', Bool.or_eq_false_iff, Bool.not_not, decide_eq_false_iff_not]); (try intro hh); (repeat' apply And.intro) <;> (first | omega | (simp only [inR]; omega) | assumption | exact ⟨by omega, hok.inb _⟩ | exact ⟨by omega, ⟨by omega, by omega⟩, hok.inb _⟩ | exact hh.1 | exact hh.2 | exact hh.2.1 | exact hh.2.2 | exact hh.1.1 | exact hh.1.2 | (intro hq; exact ⟨hh, hq⟩) | (intro hq; exact ⟨hh.1, hq⟩) | (simp_all; done)))))
  refine hK1 _ ?_
  clear hK1
  refine W_seq (fun K2 hK2 => ?_)
  refine W_seq (fun K3 hK3 => ?_)
  refine W_region hT hG [] [1, 2, 3, 14] ?_
  rw [hnt]
  simp only [baseS, eq_self, implies_true, if_true, if_false, reduceIte, Nat.reduceBEq, Nat.reduceEqDiff, Nat.reduceLT, Nat.reduceAdd, reduceCtorEq, tyInt, tdInt, tyInts, tdInts, tyHull, tdHull, tyBoxes, tdBoxes, c_impl_PlanValid, c_impl_Hull_stack, c_impl_weightAt, decide_false, room, Nat.reduceLeDiff, Nat.zero_le, storeAV, rowQ, ownInts, FT.of, FT.setf, elems, appAV_I, appI, srcI, ownI, anyI, sameR, appAV_P, appP, srcP, ownP, anyP]
  repeat (refine And.intro ?_ ?_; focus (first | exact ordP (by kernel_rfl) | with_reducible exact rfl | assumption | trivial | (simp only [inR]; omega) | omega | exact ⟨by omega, by omega⟩ | exact ⟨by omega, by omega, by omega⟩ | exact ⟨by omega, hok.inb _⟩ | exact ⟨by omega, ⟨by omega, by omega⟩, hok.inb _⟩ | ((try simp only [decide_eq_true_eq, Bool.and_eq_true, ne_eq, decide_not, Bool.not_eq_true', Bool.not_eq_false', Bool.or_eq_false_iff, Bool.not_not, decide_eq_false_iff_not]); (try intro hh); (repeat' apply And.intro) <;> (first | omega | (simp only [inR]; omega) | assumption | exact ⟨by omega, hok.inb _⟩ | exact ⟨by omega, ⟨by omega, by omega⟩, hok.inb _⟩ | exact hh.1 | exact hh.2 | exact hh.2.1 | exact hh.2.2 | exact hh.1.1 | exact hh.1.2 | (intro hq; exact ⟨hh, hq⟩) | (intro hq; exact ⟨hh.1, hq⟩) | (simp_all; done)))))
  refine hK3 _ ?_
  clear hK3
  refine W_cond (b := _) rfl (fun hc4 => ?_) (fun hc4 => ?_)
  · try simp only [decide_eq_true_eq, decide_eq_false_iff_not, ne_eq, Decidable.not_not, Bool.not_eq_true', Bool.not_eq_false', Bool.or_eq_true, Bool.and_eq_true, Bool.or_eq_false_iff, Bool.and_eq_false_iff] at hc4
    refine W_seq (fun K5 hK5 => ?_)
    refine W_region hT hG [] [6] ?_
    rw [hnt]
    simp only [baseS, eq_self, implies_true, if_true, if_false, reduceIte, Nat.reduceBEq, Nat.reduceEqDiff, Nat.reduceLT, Nat.reduceAdd, reduceCtorEq, tyInt, tdInt, tyInts, tdInts, tyHull, tdHull, tyBoxes, tdBoxes, c_impl_PlanValid, c_impl_Hull_stack, c_impl_weightAt, decide_false, room, Nat.reduceLeDiff, Nat.zero_le, storeAV, rowQ, ownInts, FT.of, FT.setf, elems, appAV_I, appI, srcI, ownI, anyI, sameR, appAV_P, appP, srcP, ownP, anyP]
    repeat (refine And.intro ?_ ?_; focus (first | exact ordP (by kernel_rfl) | with_reducible exact rfl | assumption | trivial | (simp only [inR]; omega) | omega | exact ⟨by omega, by omega⟩ | exact ⟨by omega, by omega, by omega⟩ | exact ⟨by omega, hok.inb _⟩ | exact ⟨by omega, ⟨by omega, by omega⟩, hok.inb _⟩ | ((try simp only [decide_eq_true_eq, Bool.and_eq_true, ne_eq, decide_not, Bool.not_eq_true', Bool.not_eq_false', Bool.or_eq_false_iff, Bool.not_not, decide_eq_false_iff_not]); (try intro hh); (repeat' apply And.intro) <;> (first | omega | (simp only [inR]; omega) | assumption | exact ⟨by omega, hok.inb _⟩ | exact ⟨by omega, ⟨by omega, by omega⟩, hok.inb _⟩ | exact hh.1 | exact hh.2 | exact hh.2.1 | exact hh.2.2 | exact hh.1.1 | exact hh.1.2 | (intro hq; exact ⟨hh, hq⟩) | (intro hq; exact ⟨hh.1, hq⟩) | (simp_all; done)))))
    refine hK5 _ ?_
    clear hK5
    refine W_re [(6, .own 3 .i64)] (by (try simp only [hnt, hnp]); rfl) ?_
    refine W_ret ?_
    simp only [thenQ, blockQ, loopQ, retQ, reduceIte, Nat.reduceEqDiff]
    refine ret1s 6 rfl rfl rfl ?_
    all_goals (
      first | (rw [rowsR, if_pos hc4, hO, show i.toNat = p.length by omega]; done) | (rw [rowsR, hc4]; rfl))
  · try simp only [decide_eq_true_eq, decide_eq_false_iff_not, ne_eq, Decidable.not_not, Bool.not_eq_true', Bool.not_eq_false', Bool.or_eq_true, Bool.and_eq_true, Bool.or_eq_false_iff, Bool.and_eq_false_iff] at hc4
    refine W_skip ?_
    simp only [thenQ, blockQ, loopQ, reduceIte, Nat.reduceEqDiff]
    refine hK2 _ ?_
    clear hK2
    refine W_seq (fun K6 hK6 => ?_)
    refine W_region hT hG [] [1, 2, 3, 7] ?_
    rw [hnt]
    have hbr1 := hbr0 (planB_ok hc4).ship
    simp only [baseS, eq_self, implies_true, if_true, if_false, reduceIte, Nat.reduceBEq, Nat.reduceEqDiff, Nat.reduceLT, Nat.reduceAdd, reduceCtorEq, tyInt, tdInt, tyInts, tdInts, tyHull, tdHull, tyBoxes, tdBoxes, c_impl_PlanValid, c_impl_Hull_stack, c_impl_weightAt, decide_false, room, Nat.reduceLeDiff, Nat.zero_le, storeAV, rowQ, ownInts, FT.of, FT.setf, elems, appAV_I, appI, srcI, ownI, anyI, sameR, appAV_P, appP, srcP, ownP, anyP]
    repeat (refine And.intro ?_ ?_; focus (first | exact ordP (by kernel_rfl) | with_reducible exact rfl | assumption | trivial | (simp only [inR]; omega) | omega | exact ⟨by omega, by omega⟩ | exact ⟨by omega, by omega, by omega⟩ | exact ⟨by omega, hok.inb _⟩ | exact ⟨by omega, ⟨by omega, by omega⟩, hok.inb _⟩ | ((try simp only [decide_eq_true_eq, Bool.and_eq_true, ne_eq, decide_not, Bool.not_eq_true', Bool.not_eq_false', Bool.or_eq_false_iff, Bool.not_not, decide_eq_false_iff_not]); (try intro hh); (repeat' apply And.intro) <;> (first | omega | (simp only [inR]; omega) | assumption | exact ⟨by omega, hok.inb _⟩ | exact ⟨by omega, ⟨by omega, by omega⟩, hok.inb _⟩ | exact hh.1 | exact hh.2 | exact hh.2.1 | exact hh.2.2 | exact hh.1.1 | exact hh.1.2 | (intro hq; exact ⟨hh, hq⟩) | (intro hq; exact ⟨hh.1, hq⟩) | (simp_all; done)))))
    refine hK6 _ ?_
    clear hK6
    refine W_seq (fun K7 hK7 => ?_)
    refine W_seq (fun K8 hK8 => ?_)
    refine W_region hT hG [] [1, 3, 7, 21, 22, 23] ?_
    rw [hnt]
    simp only [baseS, eq_self, implies_true, if_true, if_false, reduceIte, Nat.reduceBEq, Nat.reduceEqDiff, Nat.reduceLT, Nat.reduceAdd, reduceCtorEq, tyInt, tdInt, tyInts, tdInts, tyHull, tdHull, tyBoxes, tdBoxes, c_impl_PlanValid, c_impl_Hull_stack, c_impl_weightAt, decide_false, room, Nat.reduceLeDiff, Nat.zero_le, storeAV, rowQ, ownInts, FT.of, FT.setf, elems, appAV_I, appI, srcI, ownI, anyI, sameR, appAV_P, appP, srcP, ownP, anyP]
    repeat (refine And.intro ?_ ?_; focus (first | exact ordP (by kernel_rfl) | with_reducible exact rfl | assumption | trivial | (simp only [inR]; omega) | omega | exact ⟨by omega, by omega⟩ | exact ⟨by omega, by omega, by omega⟩ | exact ⟨by omega, hok.inb _⟩ | exact ⟨by omega, ⟨by omega, by omega⟩, hok.inb _⟩ | ((try simp only [decide_eq_true_eq, Bool.and_eq_true, ne_eq, decide_not, Bool.not_eq_true', Bool.not_eq_false', Bool.or_eq_false_iff, Bool.not_not, decide_eq_false_iff_not]); (try intro hh); (repeat' apply And.intro) <;> (first | omega | (simp only [inR]; omega) | assumption | exact ⟨by omega, hok.inb _⟩ | exact ⟨by omega, ⟨by omega, by omega⟩, hok.inb _⟩ | exact hh.1 | exact hh.2 | exact hh.2.1 | exact hh.2.2 | exact hh.1.1 | exact hh.1.2 | (intro hq; exact ⟨hh, hq⟩) | (intro hq; exact ⟨hh.1, hq⟩) | (simp_all; done)))))
    refine hK8 _ ?_
    clear hK8
    refine W_block ?_
    refine W_loop (α := Int × List Int) [(1, .as), (3, .as), (7, .own 3 .i64), (21, .as), (22, .as), (23, .as)] (fun x => ⟨[(1, .rs .box bs), (3, .rp [.int b, .int r, .int t]), (7, .sl 7), (21, .rs .i64 p), (22, .int p.length), (23, .int x.1)], [(7, some (.sl 3 .i64 x.2))], 41⟩) (fun x => 0 ≤ x.1 ∧ x.1 ≤ p.length ∧ x.2 = rowsW t bs p (b * r).toNat x.1.toNat) (fun x => (p.length - x.1).toNat) (0, List.replicate (b * r).toNat 0) ?_ ?_ ?_
    · (try simp only [hnt, hnp]); rfl
    · exact ⟨by omega, by omega, (rowsW_zero t bs p _).symm⟩
    rintro ⟨i, out⟩ ⟨hi0, hi1, hO⟩
    dsimp only at hi0 hi1 hO ⊢
    have hok := planB_ok hc4
    have hle := hok.le
    have htt := hv_t hok.ship
    have hbr := br_box hok.ship
    have hw := wAt_le hok.boxes (hok.inb i.toNat)
    have hol : out.length = (b * r).toNat := by rw [hO, rowsW_len]
    have hst := hok.stack hi0
    have hgt : i < p.length → -1080 ≤ out.getD (i / t).toNat 0 ∧ out.getD (i / t).toNat 0 ≤ 1080 := fun h => by
      have h1 := hst h
      have h2 := rowW_le hok (((i / t).toNat : Nat) : Int) i.toNat
      rw [hO, rowsW_get (by omega)]; omega
    refine W_seq (fun K10 hK10 => ?_)
    refine W_region hT hG [] [1, 3, 7, 21, 22, 23, 24] ?_
    rw [hnt]
    simp only [baseS, eq_self, implies_true, if_true, if_false, reduceIte, Nat.reduceBEq, Nat.reduceEqDiff, Nat.reduceLT, Nat.reduceAdd, reduceCtorEq, tyInt, tdInt, tyInts, tdInts, tyHull, tdHull, tyBoxes, tdBoxes, c_impl_PlanValid, c_impl_Hull_stack, c_impl_weightAt, decide_false, room, Nat.reduceLeDiff, Nat.zero_le, storeAV, rowQ, ownInts, FT.of, FT.setf, elems, appAV_I, appI, srcI, ownI, anyI, sameR, appAV_P, appP, srcP, ownP, anyP]
    repeat (refine And.intro ?_ ?_; focus (first | exact ordP (by kernel_rfl) | with_reducible exact rfl | assumption | trivial | (simp only [inR]; omega) | omega | exact ⟨by omega, by omega⟩ | exact ⟨by omega, by omega, by omega⟩ | exact ⟨by omega, hok.inb _⟩ | exact ⟨by omega, ⟨by omega, by omega⟩, hok.inb _⟩ | ((try simp only [decide_eq_true_eq, Bool.and_eq_true, ne_eq, decide_not, Bool.not_eq_true', Bool.not_eq_false', Bool.or_eq_false_iff, Bool.not_not, decide_eq_false_iff_not]); (try intro hh); (repeat' apply And.intro) <;> (first | omega | (simp only [inR]; omega) | assumption | exact ⟨by omega, hok.inb _⟩ | exact ⟨by omega, ⟨by omega, by omega⟩, hok.inb _⟩ | exact hh.1 | exact hh.2 | exact hh.2.1 | exact hh.2.2 | exact hh.1.1 | exact hh.1.2 | (intro hq; exact ⟨hh, hq⟩) | (intro hq; exact ⟨hh.1, hq⟩) | (simp_all; done)))))
    refine hK10 _ ?_
    clear hK10
    refine W_seq (fun K11 hK11 => ?_)
    refine W_cond (b := _) rfl (fun hc12 => ?_) (fun hc12 => ?_)
    · try simp only [decide_eq_true_eq, decide_eq_false_iff_not, ne_eq, Decidable.not_not, Bool.not_eq_true', Bool.not_eq_false', Bool.or_eq_true, Bool.and_eq_true, Bool.or_eq_false_iff, Bool.and_eq_false_iff] at hc12
      refine W_skip ?_
      simp only [thenQ, blockQ, loopQ, reduceIte, Nat.reduceEqDiff]
      refine hK11 _ ?_
      clear hK11
      refine W_seq (fun K13 hK13 => ?_)
      refine W_block ?_
      refine W_seq (fun K14 hK14 => ?_)
      refine W_region hT hG [] [1, 3, 7, 8, 9, 21, 22, 23] ?_
      rw [hnt]
      simp only [baseS, eq_self, implies_true, if_true, if_false, reduceIte, Nat.reduceBEq, Nat.reduceEqDiff, Nat.reduceLT, Nat.reduceAdd, reduceCtorEq, tyInt, tdInt, tyInts, tdInts, tyHull, tdHull, tyBoxes, tdBoxes, c_impl_PlanValid, c_impl_Hull_stack, c_impl_weightAt, decide_false, room, Nat.reduceLeDiff, Nat.zero_le, storeAV, rowQ, ownInts, FT.of, FT.setf, elems, appAV_I, appI, srcI, ownI, anyI, sameR, appAV_P, appP, srcP, ownP, anyP]
      repeat (refine And.intro ?_ ?_; focus (first | exact ordP (by kernel_rfl) | with_reducible exact rfl | assumption | trivial | (simp only [inR]; omega) | omega | exact ⟨by omega, by omega⟩ | exact ⟨by omega, by omega, by omega⟩ | exact ⟨by omega, hok.inb _⟩ | exact ⟨by omega, ⟨by omega, by omega⟩, hok.inb _⟩ | ((try simp only [decide_eq_true_eq, Bool.and_eq_true, ne_eq, decide_not, Bool.not_eq_true', Bool.not_eq_false', Bool.or_eq_false_iff, Bool.not_not, decide_eq_false_iff_not]); (try intro hh); (repeat' apply And.intro) <;> (first | omega | (simp only [inR]; omega) | assumption | exact ⟨by omega, hok.inb _⟩ | exact ⟨by omega, ⟨by omega, by omega⟩, hok.inb _⟩ | exact hh.1 | exact hh.2 | exact hh.2.1 | exact hh.2.2 | exact hh.1.1 | exact hh.1.2 | (intro hq; exact ⟨hh, hq⟩) | (intro hq; exact ⟨hh.1, hq⟩) | (simp_all; done)))))
      refine hK14 _ ?_
      clear hK14
      refine W_region_draw hT hG (by rw [hP]; exact draws_ok) [] [1, 3, 7, 21, 22, 23] ?_
      rw [hnt]
      have hst1 := hst hc12
      have hgt1 := hgt hc12
      simp only [baseS, eq_self, implies_true, if_true, if_false, reduceIte, Nat.reduceBEq, Nat.reduceEqDiff, Nat.reduceLT, Nat.reduceAdd, reduceCtorEq, tyInt, tdInt, tyInts, tdInts, tyHull, tdHull, tyBoxes, tdBoxes, c_impl_PlanValid, c_impl_Hull_stack, c_impl_weightAt, decide_false, room, Nat.reduceLeDiff, Nat.zero_le, storeAV, rowQ, ownInts, FT.of, FT.setf, elems, appAV_I, appI, srcI, ownI, anyI, sameR, appAV_P, appP, srcP, ownP, anyP]
      repeat (refine And.intro ?_ ?_; focus (first | exact ordP (by kernel_rfl) | with_reducible exact rfl | assumption | trivial | (simp only [inR]; omega) | omega | exact ⟨by omega, by omega⟩ | exact ⟨by omega, by omega, by omega⟩ | exact ⟨by omega, hok.inb _⟩ | exact ⟨by omega, ⟨by omega, by omega⟩, hok.inb _⟩ | ((try simp only [decide_eq_true_eq, Bool.and_eq_true, ne_eq, decide_not, Bool.not_eq_true', Bool.not_eq_false', Bool.or_eq_false_iff, Bool.not_not, decide_eq_false_iff_not]); (try intro hh); (repeat' apply And.intro) <;> (first | omega | (simp only [inR]; omega) | assumption | exact ⟨by omega, hok.inb _⟩ | exact ⟨by omega, ⟨by omega, by omega⟩, hok.inb _⟩ | exact hh.1 | exact hh.2 | exact hh.2.1 | exact hh.2.2 | exact hh.1.1 | exact hh.1.2 | (intro hq; exact ⟨hh, hq⟩) | (intro hq; exact ⟨hh.1, hq⟩) | (simp_all; done)))))
      refine hK13 _ ?_
      clear hK13
      refine W_region hT hG [] [1, 3, 7, 21, 22, 23] ?_
      rw [hnt]
      simp only [baseS, eq_self, implies_true, if_true, if_false, reduceIte, Nat.reduceBEq, Nat.reduceEqDiff, Nat.reduceLT, Nat.reduceAdd, reduceCtorEq, tyInt, tdInt, tyInts, tdInts, tyHull, tdHull, tyBoxes, tdBoxes, c_impl_PlanValid, c_impl_Hull_stack, c_impl_weightAt, decide_false, room, Nat.reduceLeDiff, Nat.zero_le, storeAV, rowQ, ownInts, FT.of, FT.setf, elems, appAV_I, appI, srcI, ownI, anyI, sameR, appAV_P, appP, srcP, ownP, anyP]
      repeat (refine And.intro ?_ ?_; focus (first | exact ordP (by kernel_rfl) | with_reducible exact rfl | assumption | trivial | (simp only [inR]; omega) | omega | exact ⟨by omega, by omega⟩ | exact ⟨by omega, by omega, by omega⟩ | exact ⟨by omega, hok.inb _⟩ | exact ⟨by omega, ⟨by omega, by omega⟩, hok.inb _⟩ | ((try simp only [decide_eq_true_eq, Bool.and_eq_true, ne_eq, decide_not, Bool.not_eq_true', Bool.not_eq_false', Bool.or_eq_false_iff, Bool.not_not, decide_eq_false_iff_not]); (try intro hh); (repeat' apply And.intro) <;> (first | omega | (simp only [inR]; omega) | assumption | exact ⟨by omega, hok.inb _⟩ | exact ⟨by omega, ⟨by omega, by omega⟩, hok.inb _⟩ | exact hh.1 | exact hh.2 | exact hh.2.1 | exact hh.2.2 | exact hh.1.1 | exact hh.1.2 | (intro hq; exact ⟨hh, hq⟩) | (intro hq; exact ⟨hh.1, hq⟩) | (simp_all; done)))))
      refine ⟨(i + 1, _), (by (try simp only [hnt, hnp]); rfl), ⟨by dsimp only; omega, by dsimp only; omega, ?_⟩, by dsimp only; omega⟩
      dsimp only
      have hst1 := hst hc12
      rw [rowsW_step hi0 hst1.1 (by omega), ← hO]
    · try simp only [decide_eq_true_eq, decide_eq_false_iff_not, ne_eq, Decidable.not_not, Bool.not_eq_true', Bool.not_eq_false', Bool.or_eq_true, Bool.and_eq_true, Bool.or_eq_false_iff, Bool.and_eq_false_iff] at hc12
      refine W_exit ?_
      simp only [thenQ, blockQ, loopQ, reduceIte, Nat.reduceEqDiff]
      refine hK7 _ ?_
      clear hK7
      refine W_seq (fun K15 hK15 => ?_)
      refine W_region hT hG [] [6] ?_
      rw [hnt]
      simp only [baseS, eq_self, implies_true, if_true, if_false, reduceIte, Nat.reduceBEq, Nat.reduceEqDiff, Nat.reduceLT, Nat.reduceAdd, reduceCtorEq, tyInt, tdInt, tyInts, tdInts, tyHull, tdHull, tyBoxes, tdBoxes, c_impl_PlanValid, c_impl_Hull_stack, c_impl_weightAt, decide_false, room, Nat.reduceLeDiff, Nat.zero_le, storeAV, rowQ, ownInts, FT.of, FT.setf, elems, appAV_I, appI, srcI, ownI, anyI, sameR, appAV_P, appP, srcP, ownP, anyP]
      repeat (refine And.intro ?_ ?_; focus (first | exact ordP (by kernel_rfl) | with_reducible exact rfl | assumption | trivial | (simp only [inR]; omega) | omega | exact ⟨by omega, by omega⟩ | exact ⟨by omega, by omega, by omega⟩ | exact ⟨by omega, hok.inb _⟩ | exact ⟨by omega, ⟨by omega, by omega⟩, hok.inb _⟩ | ((try simp only [decide_eq_true_eq, Bool.and_eq_true, ne_eq, decide_not, Bool.not_eq_true', Bool.not_eq_false', Bool.or_eq_false_iff, Bool.not_not, decide_eq_false_iff_not]); (try intro hh); (repeat' apply And.intro) <;> (first | omega | (simp only [inR]; omega) | assumption | exact ⟨by omega, hok.inb _⟩ | exact ⟨by omega, ⟨by omega, by omega⟩, hok.inb _⟩ | exact hh.1 | exact hh.2 | exact hh.2.1 | exact hh.2.2 | exact hh.1.1 | exact hh.1.2 | (intro hq; exact ⟨hh, hq⟩) | (intro hq; exact ⟨hh.1, hq⟩) | (simp_all; done)))))
      refine hK15 _ ?_
      clear hK15
      refine W_re [(6, .own 3 .i64)] (by (try simp only [hnt, hnp]); rfl) ?_
      refine W_ret ?_
      simp only [thenQ, blockQ, loopQ, retQ, reduceIte, Nat.reduceEqDiff]
      refine ret1s 6 rfl rfl rfl ?_
      all_goals (
        first | (rw [rowsR, if_pos hc4, hO, show i.toNat = p.length by omega]; done) | (rw [rowsR, hc12]; rfl))

def c_impl_RowWeightsN : Ctr where
  modes := [.v .p, .v (.r .box), .v (.r .i64)]
  al := false
  run := fun xs os => match xs, os with
    | [.agg [.int b, .int r, .int t], .rs .box bs, .rs .i64 p], [] => some ⟨(bs.length ≤ 9223372036854775807 ∧ p.length ≤ 9223372036854775807) ∧ planB b r t bs p = false, .nils, [], []⟩
    | _, _ => none
theorem m_impl_RowWeightsN : Meets Try.prog 49 c_impl_RowWeightsN := by
  refine meets_of (T := tyT) tyOK Try.func49 (by rfl) rfl (by decide) ?_
  intro args owns R hrun hpre
  simp only [c_impl_RowWeightsN] at hrun
  split at hrun
  case h_2 => cases hrun
  rename_i b r t bs p
  cases hrun
  try dsimp only at hpre
  refine ⟨_, rfl, fun E hP hnt hnp => ?_⟩
  replace hnt : E.nt = 41 := hnt
  replace hnp : E.np = 3 := hnp
  have hT : ∀ t d, tyT t = some d → TyOK E.P t d := hP ▸ tyOK
  have hG : ∀ f C, Γof [(47, c_impl_PlanValid), (89, c_impl_Hull_stack), (95, c_impl_weightAt)] f = some C → Meets E.P f C := hΓof (by rw [hP]; exact ⟨m_impl_PlanValid, m_impl_Hull_stack, m_impl_weightAt, trivial⟩)
  try simp only [show Try.f49.ntmps = 41 from rfl]
  have hbs := hpre.1.1
  have hp := hpre.1.2
  have hno := hpre.2
  refine W_seq (fun K1 hK1 => ?_)
  refine W_region hT hG [] [1, 2, 3] ?_
  rw [hnt]
  simp only [baseS, eq_self, implies_true, if_true, if_false, reduceIte, Nat.reduceBEq, Nat.reduceEqDiff, Nat.reduceLT, Nat.reduceAdd, reduceCtorEq, tyInt, tdInt, tyInts, tdInts, tyHull, tdHull, tyBoxes, tdBoxes, c_impl_PlanValid, c_impl_Hull_stack, c_impl_weightAt, decide_false, room, Nat.reduceLeDiff, Nat.zero_le, storeAV, rowQ, ownInts, FT.of, FT.setf, elems, appAV_I, appI, srcI, ownI, anyI, sameR, appAV_P, appP, srcP, ownP, anyP]
  repeat (refine And.intro ?_ ?_; focus (first | exact ordP (by kernel_rfl) | with_reducible exact rfl | assumption | trivial | (simp only [inR]; omega) | omega | exact ⟨by omega, by omega⟩ | exact ⟨by omega, by omega, by omega⟩ | exact ⟨by omega, hok.inb _⟩ | exact ⟨by omega, ⟨by omega, by omega⟩, hok.inb _⟩ | ((try simp only [decide_eq_true_eq, Bool.and_eq_true, ne_eq, decide_not, Bool.not_eq_true', Bool.not_eq_false', Bool.or_eq_false_iff, Bool.not_not, decide_eq_false_iff_not]); (try intro hh); (repeat' apply And.intro) <;> (first | omega | (simp only [inR]; omega) | assumption | exact ⟨by omega, hok.inb _⟩ | exact ⟨by omega, ⟨by omega, by omega⟩, hok.inb _⟩ | exact hh.1 | exact hh.2 | exact hh.2.1 | exact hh.2.2 | exact hh.1.1 | exact hh.1.2 | (intro hq; exact ⟨hh, hq⟩) | (intro hq; exact ⟨hh.1, hq⟩) | (simp_all; done)))))
  refine hK1 _ ?_
  clear hK1
  refine W_seq (fun K2 hK2 => ?_)
  refine W_seq (fun K3 hK3 => ?_)
  refine W_region hT hG [] [1, 2, 3, 14] ?_
  rw [hnt]
  simp only [baseS, eq_self, implies_true, if_true, if_false, reduceIte, Nat.reduceBEq, Nat.reduceEqDiff, Nat.reduceLT, Nat.reduceAdd, reduceCtorEq, tyInt, tdInt, tyInts, tdInts, tyHull, tdHull, tyBoxes, tdBoxes, c_impl_PlanValid, c_impl_Hull_stack, c_impl_weightAt, decide_false, room, Nat.reduceLeDiff, Nat.zero_le, storeAV, rowQ, ownInts, FT.of, FT.setf, elems, appAV_I, appI, srcI, ownI, anyI, sameR, appAV_P, appP, srcP, ownP, anyP]
  repeat (refine And.intro ?_ ?_; focus (first | exact ordP (by kernel_rfl) | with_reducible exact rfl | assumption | trivial | (simp only [inR]; omega) | omega | exact ⟨by omega, by omega⟩ | exact ⟨by omega, by omega, by omega⟩ | exact ⟨by omega, hok.inb _⟩ | exact ⟨by omega, ⟨by omega, by omega⟩, hok.inb _⟩ | ((try simp only [decide_eq_true_eq, Bool.and_eq_true, ne_eq, decide_not, Bool.not_eq_true', Bool.not_eq_false', Bool.or_eq_false_iff, Bool.not_not, decide_eq_false_iff_not]); (try intro hh); (repeat' apply And.intro) <;> (first | omega | (simp only [inR]; omega) | assumption | exact ⟨by omega, hok.inb _⟩ | exact ⟨by omega, ⟨by omega, by omega⟩, hok.inb _⟩ | exact hh.1 | exact hh.2 | exact hh.2.1 | exact hh.2.2 | exact hh.1.1 | exact hh.1.2 | (intro hq; exact ⟨hh, hq⟩) | (intro hq; exact ⟨hh.1, hq⟩) | (simp_all; done)))))
  refine hK3 _ ?_
  clear hK3
  refine W_cond (b := _) rfl (fun hc4 => ?_) (fun hc4 => ?_)
  · try simp only [decide_eq_true_eq, decide_eq_false_iff_not, ne_eq, Decidable.not_not, Bool.not_eq_true', Bool.not_eq_false', Bool.or_eq_true, Bool.and_eq_true, Bool.or_eq_false_iff, Bool.and_eq_false_iff] at hc4
    refine W_seq (fun K5 hK5 => ?_)
    refine W_region hT hG [] [6] ?_
    rw [hnt]
    simp only [baseS, eq_self, implies_true, if_true, if_false, reduceIte, Nat.reduceBEq, Nat.reduceEqDiff, Nat.reduceLT, Nat.reduceAdd, reduceCtorEq, tyInt, tdInt, tyInts, tdInts, tyHull, tdHull, tyBoxes, tdBoxes, c_impl_PlanValid, c_impl_Hull_stack, c_impl_weightAt, decide_false, room, Nat.reduceLeDiff, Nat.zero_le, storeAV, rowQ, ownInts, FT.of, FT.setf, elems, appAV_I, appI, srcI, ownI, anyI, sameR, appAV_P, appP, srcP, ownP, anyP]
    repeat (refine And.intro ?_ ?_; focus (first | exact ordP (by kernel_rfl) | with_reducible exact rfl | assumption | trivial | (simp only [inR]; omega) | omega | exact ⟨by omega, by omega⟩ | exact ⟨by omega, by omega, by omega⟩ | exact ⟨by omega, hok.inb _⟩ | exact ⟨by omega, ⟨by omega, by omega⟩, hok.inb _⟩ | ((try simp only [decide_eq_true_eq, Bool.and_eq_true, ne_eq, decide_not, Bool.not_eq_true', Bool.not_eq_false', Bool.or_eq_false_iff, Bool.not_not, decide_eq_false_iff_not]); (try intro hh); (repeat' apply And.intro) <;> (first | omega | (simp only [inR]; omega) | assumption | exact ⟨by omega, hok.inb _⟩ | exact ⟨by omega, ⟨by omega, by omega⟩, hok.inb _⟩ | exact hh.1 | exact hh.2 | exact hh.2.1 | exact hh.2.2 | exact hh.1.1 | exact hh.1.2 | (intro hq; exact ⟨hh, hq⟩) | (intro hq; exact ⟨hh.1, hq⟩) | (simp_all; done)))))
    refine hK5 _ ?_
    clear hK5
    refine W_ret ?_
    simp only [thenQ, blockQ, loopQ, retQ, reduceIte, Nat.reduceEqDiff]
    exact ret0 rfl rfl rfl (.inr rfl) rfl
  · try simp only [decide_eq_true_eq, decide_eq_false_iff_not, ne_eq, Decidable.not_not, Bool.not_eq_true', Bool.not_eq_false', Bool.or_eq_true, Bool.and_eq_true, Bool.or_eq_false_iff, Bool.and_eq_false_iff] at hc4
    exact absurd hc4 (by rw [hno]; simp)

end Go.Proofs.Ytpiaeckkjdcifaa
