/- Walks over the reference's best order: heels of sets, what can be next, the least worst heel. No condition. -/
import Derived.Test.YtpiaeckkjdcifaaOkLoad
import Derived.Test.YtpiaeckkjdcifaaLoadB
import Derived.Test.YtpiaeckkjdcifaaFull
namespace Go.Proofs.Ytpiaeckkjdcifaa
open Go
set_option linter.unusedVariables false
set_option linter.unusedSimpArgs false

/-- What a slot's box adds to the heel. -/
def armS (r t : Int) (bs : List BoxD) (p : List Int) (s : Int) : Int := wAt bs (p.getD s.toNat 0) * (2 * (s / t % r) - (r - 1))
/-- The heel of a set of slots. -/
def setH (r t : Int) (bs : List BoxD) (p s : List Int) (x : Int) : Nat → Int
  | 0 => 0
  | k + 1 => setH r t bs p s x k + if x / 2 ^ k % 2 = 1 then armS r t bs p (s.getD k 0) else 0
theorem setH_yes {r t : Int} {bs : List BoxD} {p s : List Int} {x k : Int} (h : 0 ≤ k) (h1 : x / 2 ^ k.toNat % 2 = 1) : setH r t bs p s x (k + 1).toNat = setH r t bs p s x k.toNat + wAt bs (p.getD (s.getD k.toNat 0).toNat 0) * (2 * (s.getD k.toNat 0 / t % r) - (r - 1)) := by
  have e : (k + 1).toNat = k.toNat + 1 := by omega
  rw [e, setH, if_pos h1]; rfl
theorem setH_no {r t : Int} {bs : List BoxD} {p s : List Int} {x k : Int} (h : 0 ≤ k) (h1 : ¬ x / 2 ^ k.toNat % 2 = 1) : setH r t bs p s x (k + 1).toNat = setH r t bs p s x k.toNat := by
  have e : (k + 1).toNat = k.toNat + 1 := by omega
  rw [e, setH, if_neg h1, Int.add_zero]
def heelsF (r t : Int) (bs : List BoxD) (p s : List Int) (m : Nat) : List Int := (List.range m).map fun (x : Nat) => max (setH r t bs p s (x : Int) s.length) (-setH r t bs p s (x : Int) s.length)
theorem heelsF_step {r t : Int} {bs : List BoxD} {p s : List Int} {q : Int} (h : 0 ≤ q) : heelsF r t bs p s (q + 1).toNat = heelsF r t bs p s q.toNat ++ [max (setH r t bs p s q s.length) (-setH r t bs p s q s.length)] := by
  have e : (q + 1).toNat = q.toNat + 1 := by omega
  have e2 : ((q.toNat : Nat) : Int) = q := by omega
  rw [e, heelsF, List.range_succ, List.map_append, List.map_singleton, e2]; rfl
theorem heelsF_len (r t : Int) (bs : List BoxD) (p s : List Int) (m : Nat) : (heelsF r t bs p s m).length = m := by simp [heelsF]
theorem heelsF_nn {r t : Int} {bs : List BoxD} {p s : List Int} {m k : Nat} (h : k < m) : 0 ≤ (heelsF r t bs p s m).getD k 0 := by
  rw [heelsF, List.getD_eq_getElem?_getD, List.getElem?_map, List.getElem?_range h]
  simp only [Option.map_some, Option.getD_some]
  omega
theorem two_pow_le {n : Nat} (h : n ≤ 7) : (1 : Int) ≤ 2 ^ n ∧ (2 : Int) ^ n ≤ 128 := by
  match n, h with
  | 0, _ => decide
  | 1, _ => decide
  | 2, _ => decide
  | 3, _ => decide
  | 4, _ => decide
  | 5, _ => decide
  | 6, _ => decide
  | 7, _ => decide
theorem two_pow_nat {n : Nat} (h : n ≤ 7) : 1 ≤ 2 ^ n ∧ 2 ^ n ≤ 128 ∧ ((2 ^ n : Nat) : Int) = (2 : Int) ^ n := by
  have := two_pow_le h
  have e : ((2 ^ n : Nat) : Int) = (2 : Int) ^ n := by simp
  exact ⟨by omega, by omega, e⟩
/-- Is the j-th slot no hindrance for the k-th, behind the set x? -/
def okJ (b r t : Int) (s : List Int) (x : Int) (k j : Nat) : Bool := !(decide (s.getD j 0 = belF b r t (s.getD k 0)) && decide (x / 2 ^ j % 2 = 0))
def nxtB (b r t : Int) (s : List Int) (x : Int) (k : Nat) : Bool := !decide (x / 2 ^ k % 2 = 1) && (List.range s.length).all (okJ b r t s x k)
theorem nxt_no {b r t : Int} {s : List Int} {x : Int} {k j : Nat} (hj : j < s.length) (h : okJ b r t s x k j = false) : false = nxtB b r t s x k := by
  symm
  cases hn : nxtB b r t s x k with
  | false => rfl
  | true =>
    exfalso
    simp only [nxtB, Bool.and_eq_true, List.all_eq_true] at hn
    have := hn.2 j (List.mem_range.2 hj)
    rw [h] at this; cases this
theorem next_bit {b r t : Int} {s : List Int} {x : Int} {k : Nat} (h : x / 2 ^ k % 2 = 1) : false = nxtB b r t s x k := by
  rw [nxtB, decide_eq_true h]; rfl
theorem nxt_yes {b r t : Int} {s : List Int} {x j : Int} {k : Nat} (h : ¬ x / 2 ^ k % 2 = 1) (hI : ∀ i : Nat, (i : Int) < j → okJ b r t s x k i = true) (hj : ¬ j < s.length) : true = nxtB b r t s x k := by
  symm
  rw [nxtB, decide_eq_false h, Bool.not_false, Bool.true_and, List.all_eq_true]
  intro i hi
  exact hI i (by have := List.mem_range.1 hi; omega)
theorem ok_step {b r t : Int} {s : List Int} {x j : Int} {k : Nat} (h0 : 0 ≤ j) (hI : ∀ i : Nat, (i : Int) < j → okJ b r t s x k i = true) (h : okJ b r t s x k j.toNat = true) : ∀ i : Nat, (i : Int) < j + 1 → okJ b r t s x k i = true := by
  intro i hi
  by_cases e : (i : Int) = j
  · have : i = j.toNat := by omega
    rw [this]; exact h
  · exact hI i (by omega)
theorem ok_bad {b r t : Int} {s : List Int} {x : Int} {k j : Nat} (h : s.getD j 0 = belF b r t (s.getD k 0) ∧ x / 2 ^ j % 2 = 0) : okJ b r t s x k j = false := by
  rw [okJ, decide_eq_true h.1, decide_eq_true h.2]; rfl
theorem ok_good {b r t : Int} {s : List Int} {x : Int} {k j : Nat} (h : s.getD j 0 = belF b r t (s.getD k 0) → ¬ x / 2 ^ j % 2 = 0) : okJ b r t s x k j = true := by
  rw [okJ]
  by_cases h1 : s.getD j 0 = belF b r t (s.getD k 0)
  · rw [decide_eq_false (h h1), Bool.and_false]; rfl
  · rw [decide_eq_false h1, Bool.false_and]; rfl
/-- Whoever can be next is a bit that is not there. -/
theorem add_bit {n : Nat} (hn : n ≤ 7) {x : Int} {k : Nat} (hk : k < n) (h0 : 0 ≤ x) (h1 : x < 2 ^ n) (h : ¬ x / 2 ^ k % 2 = 1) : x + 2 ^ k < 2 ^ n := by
  have hd : ∀ a c : Int, 0 < c → c * (a / c) ≤ a ∧ a < c * (a / c) + c := fun a c hc => ⟨Int.mul_ediv_self_le (by omega), by have := Int.lt_mul_ediv_self_add (x := a) hc; omega⟩
  match n, hn, k, hk with
  | 1, _, 0, _ => simp at h h1 ⊢; omega
  | 2, _, 0, _ => simp at h h1 ⊢; omega
  | 2, _, 1, _ => simp at h h1 ⊢; omega
  | 3, _, 0, _ => simp at h h1 ⊢; omega
  | 3, _, 1, _ => simp at h h1 ⊢; omega
  | 3, _, 2, _ => simp at h h1 ⊢; omega
  | 4, _, 0, _ => simp at h h1 ⊢; omega
  | 4, _, 1, _ => simp at h h1 ⊢; omega
  | 4, _, 2, _ => simp at h h1 ⊢; omega
  | 4, _, 3, _ => simp at h h1 ⊢; omega
  | 5, _, 0, _ => simp at h h1 ⊢; omega
  | 5, _, 1, _ => simp at h h1 ⊢; omega
  | 5, _, 2, _ => simp at h h1 ⊢; omega
  | 5, _, 3, _ => simp at h h1 ⊢; omega
  | 5, _, 4, _ => simp at h h1 ⊢; omega
  | 6, _, 0, _ => simp at h h1 ⊢; omega
  | 6, _, 1, _ => simp at h h1 ⊢; omega
  | 6, _, 2, _ => simp at h h1 ⊢; omega
  | 6, _, 3, _ => simp at h h1 ⊢; omega
  | 6, _, 4, _ => simp at h h1 ⊢; omega
  | 6, _, 5, _ => simp at h h1 ⊢; omega
  | 7, _, 0, _ => simp at h h1 ⊢; omega
  | 7, _, 1, _ => simp at h h1 ⊢; omega
  | 7, _, 2, _ => simp at h h1 ⊢; omega
  | 7, _, 3, _ => simp at h h1 ⊢; omega
  | 7, _, 4, _ => simp at h h1 ⊢; omega
  | 7, _, 5, _ => simp at h h1 ⊢; omega
  | 7, _, 6, _ => simp at h h1 ⊢; omega
theorem next_nbit {b r t : Int} {s : List Int} {x : Int} {k : Nat} (h : nxtB b r t s x k = true) : ¬ x / 2 ^ k % 2 = 1 := by
  simp only [nxtB, Bool.and_eq_true, Bool.not_eq_true', decide_eq_false_iff_not] at h
  exact h.1
theorem next_idx {b r t : Int} {s : List Int} (hn : s.length ≤ 7) {x k : Int} (hk0 : 0 ≤ k) (hk : k < s.length) (h0 : 0 ≤ x) (h1 : x < 2 ^ s.length) (h : nxtB b r t s x k.toNat = true) : 0 ≤ x + 2 ^ k.toNat ∧ x + 2 ^ k.toNat < 2 ^ s.length := by
  have := add_bit hn (k := k.toNat) (by omega) h0 h1 (next_nbit h)
  have hp := two_pow_le (n := k.toNat) (by omega)
  exact ⟨by omega, this⟩
/-- The least worst heel behind the set x, by what lies behind greater sets. -/
def bestK (b r t : Int) (s hs l : List Int) (x : Int) : Nat → Int
  | 0 => -1
  | k + 1 => if nxtB b r t s x k = true ∧ (bestK b r t s hs l x k < 0 ∨ max (hs.getD (x + 2 ^ k).toNat 0) (l.getD (x + 2 ^ k).toNat 0) < bestK b r t s hs l x k) then max (hs.getD (x + 2 ^ k).toNat 0) (l.getD (x + 2 ^ k).toNat 0) else bestK b r t s hs l x k
theorem bestK_yes {b r t : Int} {s hs l : List Int} {x k : Int} (h0 : 0 ≤ k) (h : nxtB b r t s x k.toNat = true) (h1 : bestK b r t s hs l x k.toNat < 0 ∨ max (hs.getD (x + 2 ^ k.toNat).toNat 0) (l.getD (x + 2 ^ k.toNat).toNat 0) < bestK b r t s hs l x k.toNat) : bestK b r t s hs l x (k + 1).toNat = max (hs.getD (x + 2 ^ k.toNat).toNat 0) (l.getD (x + 2 ^ k.toNat).toNat 0) := by
  have e : (k + 1).toNat = k.toNat + 1 := by omega
  rw [e, bestK, if_pos ⟨h, h1⟩]
theorem bestK_no {b r t : Int} {s hs l : List Int} {x k : Int} (h0 : 0 ≤ k) (h : nxtB b r t s x k.toNat = false ∨ (¬ bestK b r t s hs l x k.toNat < 0 ∧ ¬ max (hs.getD (x + 2 ^ k.toNat).toNat 0) (l.getD (x + 2 ^ k.toNat).toNat 0) < bestK b r t s hs l x k.toNat)) : bestK b r t s hs l x (k + 1).toNat = bestK b r t s hs l x k.toNat := by
  have e : (k + 1).toNat = k.toNat + 1 := by omega
  rw [e, bestK, if_neg]
  rintro ⟨h1, h2⟩
  rcases h with h | ⟨h3, h4⟩
  · rw [h] at h1; cases h1
  · exact h2.elim h3 h4
/-- The list of the least worst heels while it is filled, from the greatest set down. -/
def lstF (b r t : Int) (s hs : List Int) : Nat → List Int
  | 0 => List.replicate hs.length 0
  | i + 1 => (lstF b r t s hs i).set (hs.length - 2 - i) (bestK b r t s hs (lstF b r t s hs i) ((hs.length : Int) - 2 - i) s.length)
theorem lstF_len (b r t : Int) (s hs : List Int) : ∀ i, (lstF b r t s hs i).length = hs.length
  | 0 => by simp [lstF]
  | i + 1 => by rw [lstF, List.length_set, lstF_len b r t s hs i]
theorem lstF_step {b r t : Int} {s hs : List Int} {q : Int} (h0 : 0 ≤ q) (h1 : q ≤ (hs.length : Int) - 2) : lstF b r t s hs ((hs.length : Int) - 2 - (q - 1)).toNat = (lstF b r t s hs ((hs.length : Int) - 2 - q).toNat).set q.toNat (bestK b r t s hs (lstF b r t s hs ((hs.length : Int) - 2 - q).toNat) q s.length) := by
  have e : ((hs.length : Int) - 2 - (q - 1)).toNat = ((hs.length : Int) - 2 - q).toNat + 1 := by omega
  have e2 : hs.length - 2 - ((hs.length : Int) - 2 - q).toNat = q.toNat := by omega
  have e3 : (hs.length : Int) - 2 - (((hs.length : Int) - 2 - q).toNat : Nat) = q := by omega
  rw [e, lstF, e2, e3]
def leastF (b r t : Int) (s hs : List Int) : List Int := lstF b r t s hs (hs.length - 1)

def c_spec_l9Heels : Ctr where
  modes := [.v .p, .v (.r .box), .v (.r .i64), .v (.r .i64)]
  al := false
  run := fun xs os => match xs, os with
    | [.agg [.int b, .int r, .int t], .rs .box bs, .rs .i64 p, .rs .i64 s], [] => some ⟨(bs.length ≤ 9223372036854775807 ∧ planB b r t bs p = true) ∧ (∀ k, k < s.length → 0 ≤ s.getD k 0 ∧ s.getD k 0 < p.length) ∧ s.length ≤ 7, .sl 0, [.sl 3 .i64 (heelsF r t bs p s (2 ^ s.length))], []⟩
    | _, _ => none
theorem m_spec_l9Heels : Meets Try.prog 100 c_spec_l9Heels := by
  refine meets_of (T := tyT) tyOK Try.func100 (by rfl) rfl (by decide) ?_
  intro args owns R hrun hpre
  simp only [c_spec_l9Heels] at hrun
  split at hrun
  case h_2 => cases hrun
  rename_i b r t bs p s
  cases hrun
  try dsimp only at hpre
  refine ⟨_, rfl, fun E hP hnt hnp => ?_⟩
  replace hnt : E.nt = 56 := hnt
  replace hnp : E.np = 4 := hnp
  have hT : ∀ t d, tyT t = some d → TyOK E.P t d := hP ▸ tyOK
  have hG : ∀ f C, Γof [(92, c_spec_l8Weight), (106, c_spec_l8Heel)] f = some C → Meets E.P f C := hΓof (by rw [hP]; exact ⟨m_spec_l8Weight, m_spec_l8Heel, trivial⟩)
  try simp only [show Try.f100.ntmps = 56 from rfl]
  have hbs := hpre.1.1
  have hok := planB_ok hpre.1.2
  have hsl := hpre.2.1
  have hs7 := hpre.2.2
  have hpw := two_pow_le hs7
  have hpn := two_pow_nat hs7
  refine W_seq (fun K1 hK1 => ?_)
  refine W_region hT hG [] [1, 2, 3, 4] ?_
  rw [hnt]
  simp only [baseS, eq_self, implies_true, if_true, if_false, reduceIte, Nat.reduceBEq, Nat.reduceEqDiff, Nat.reduceLT, Nat.reduceAdd, reduceCtorEq, tyInt, tdInt, tyInts, tdInts, tyHull, tdHull, tyBoxes, tdBoxes, c_spec_l8Weight, c_spec_l8Heel, decide_false, room, Nat.reduceLeDiff, Nat.zero_le, storeAV, rowQ, ownInts, FT.of, FT.setf, elems, appAV_I, appI, srcI, ownI, anyI, sameR, appAV_P, appP, srcP, ownP, anyP, Int.toNat_natCast, Int.one_mul, maxAV]
  repeat (refine And.intro ?_ ?_; focus (first | exact ordP (by kernel_rfl) | with_reducible exact rfl | assumption | trivial | (simp only [inR]; omega) | omega | exact ⟨by omega, by omega⟩ | exact ⟨by omega, by omega, by omega⟩ | exact ⟨hbs, hget1, hok.inb _⟩ | exact hget1 | exact ⟨⟨by omega, by omega⟩, by omega⟩ | exact ⟨Int.ediv_nonneg hq.1 (Int.le_of_lt (Int.pow_pos (by omega))), by omega⟩ | exact hdv | ((try simp only [decide_eq_true_eq, Bool.and_eq_true, ne_eq, decide_not, Bool.not_eq_true', Bool.not_eq_false', Bool.or_eq_false_iff, Bool.not_not, decide_eq_false_iff_not]); (try intro hh); (repeat' apply And.intro) <;> (first | omega | (simp only [inR]; omega) | assumption | exact ⟨hbs, hget1, hok.inb _⟩ | exact hget1 | exact ⟨⟨by omega, by omega⟩, by omega⟩ | exact ⟨Int.ediv_nonneg hq.1 (Int.le_of_lt (Int.pow_pos (by omega))), by omega⟩ | exact hdv | exact hh.1 | exact hh.2 | exact hh.2.1 | exact hh.2.2 | exact hh.1.1 | exact hh.1.2 | (intro hq; exact ⟨hh, hq⟩) | (intro hq; exact ⟨hh.1, hq⟩) | (simp_all; done)))))
  refine hK1 _ ?_
  clear hK1
  refine W_seq (fun K2 hK2 => ?_)
  refine W_region hT hG [] [1, 2, 3, 4, 9] ?_
  rw [hnt]
  simp only [baseS, eq_self, implies_true, if_true, if_false, reduceIte, Nat.reduceBEq, Nat.reduceEqDiff, Nat.reduceLT, Nat.reduceAdd, reduceCtorEq, tyInt, tdInt, tyInts, tdInts, tyHull, tdHull, tyBoxes, tdBoxes, c_spec_l8Weight, c_spec_l8Heel, decide_false, room, Nat.reduceLeDiff, Nat.zero_le, storeAV, rowQ, ownInts, FT.of, FT.setf, elems, appAV_I, appI, srcI, ownI, anyI, sameR, appAV_P, appP, srcP, ownP, anyP, Int.toNat_natCast, Int.one_mul, maxAV]
  repeat (refine And.intro ?_ ?_; focus (first | exact ordP (by kernel_rfl) | with_reducible exact rfl | assumption | trivial | (simp only [inR]; omega) | omega | exact ⟨by omega, by omega⟩ | exact ⟨by omega, by omega, by omega⟩ | exact ⟨hbs, hget1, hok.inb _⟩ | exact hget1 | exact ⟨⟨by omega, by omega⟩, by omega⟩ | exact ⟨Int.ediv_nonneg hq.1 (Int.le_of_lt (Int.pow_pos (by omega))), by omega⟩ | exact hdv | ((try simp only [decide_eq_true_eq, Bool.and_eq_true, ne_eq, decide_not, Bool.not_eq_true', Bool.not_eq_false', Bool.or_eq_false_iff, Bool.not_not, decide_eq_false_iff_not]); (try intro hh); (repeat' apply And.intro) <;> (first | omega | (simp only [inR]; omega) | assumption | exact ⟨hbs, hget1, hok.inb _⟩ | exact hget1 | exact ⟨⟨by omega, by omega⟩, by omega⟩ | exact ⟨Int.ediv_nonneg hq.1 (Int.le_of_lt (Int.pow_pos (by omega))), by omega⟩ | exact hdv | exact hh.1 | exact hh.2 | exact hh.2.1 | exact hh.2.2 | exact hh.1.1 | exact hh.1.2 | (intro hq; exact ⟨hh, hq⟩) | (intro hq; exact ⟨hh.1, hq⟩) | (simp_all; done)))))
  refine hK2 _ ?_
  clear hK2
  refine W_seq (fun K3 hK3 => ?_)
  refine W_seq (fun K4 hK4 => ?_)
  refine W_region hT hG [] [1, 2, 3, 4, 9, 10] ?_
  rw [hnt]
  simp only [baseS, eq_self, implies_true, if_true, if_false, reduceIte, Nat.reduceBEq, Nat.reduceEqDiff, Nat.reduceLT, Nat.reduceAdd, reduceCtorEq, tyInt, tdInt, tyInts, tdInts, tyHull, tdHull, tyBoxes, tdBoxes, c_spec_l8Weight, c_spec_l8Heel, decide_false, room, Nat.reduceLeDiff, Nat.zero_le, storeAV, rowQ, ownInts, FT.of, FT.setf, elems, appAV_I, appI, srcI, ownI, anyI, sameR, appAV_P, appP, srcP, ownP, anyP, Int.toNat_natCast, Int.one_mul, maxAV]
  repeat (refine And.intro ?_ ?_; focus (first | exact ordP (by kernel_rfl) | with_reducible exact rfl | assumption | trivial | (simp only [inR]; omega) | omega | exact ⟨by omega, by omega⟩ | exact ⟨by omega, by omega, by omega⟩ | exact ⟨hbs, hget1, hok.inb _⟩ | exact hget1 | exact ⟨⟨by omega, by omega⟩, by omega⟩ | exact ⟨Int.ediv_nonneg hq.1 (Int.le_of_lt (Int.pow_pos (by omega))), by omega⟩ | exact hdv | ((try simp only [decide_eq_true_eq, Bool.and_eq_true, ne_eq, decide_not, Bool.not_eq_true', Bool.not_eq_false', Bool.or_eq_false_iff, Bool.not_not, decide_eq_false_iff_not]); (try intro hh); (repeat' apply And.intro) <;> (first | omega | (simp only [inR]; omega) | assumption | exact ⟨hbs, hget1, hok.inb _⟩ | exact hget1 | exact ⟨⟨by omega, by omega⟩, by omega⟩ | exact ⟨Int.ediv_nonneg hq.1 (Int.le_of_lt (Int.pow_pos (by omega))), by omega⟩ | exact hdv | exact hh.1 | exact hh.2 | exact hh.2.1 | exact hh.2.2 | exact hh.1.1 | exact hh.1.2 | (intro hq; exact ⟨hh, hq⟩) | (intro hq; exact ⟨hh.1, hq⟩) | (simp_all; done)))))
  refine hK4 _ ?_
  clear hK4
  refine W_block ?_
  refine W_loop (α := Int × List Int) [(1, .as), (2, .as), (3, .as), (4, .as), (9, .own 3 .i64), (10, .as)] (fun x => ⟨[(1, .rs .box bs), (2, .rs .i64 p), (3, .rs .i64 s), (4, .rp [.int b, .int r, .int t]), (9, .sl 9), (10, .int x.1)], [(9, some (.sl 3 .i64 x.2))], 56⟩) (fun x => (0 ≤ x.1 ∧ x.1 ≤ 2 ^ s.length) ∧ x.2 = heelsF r t bs p s x.1.toNat) (fun x => (2 ^ s.length - x.1).toNat) (0, []) ?_ ?_ ?_
  · (try simp only [hnt, hnp]); rfl
  · exact ⟨⟨by omega, by dsimp only; omega⟩, rfl⟩
  rintro ⟨q, out⟩ ⟨hq, hO⟩
  dsimp only at hq hO ⊢
  have hol : (out.length : Int) = q := by rw [hO, heelsF_len]; omega
  refine W_seq (fun K6 hK6 => ?_)
  refine W_seq (fun K7 hK7 => ?_)
  refine W_region hT hG [] [1, 2, 3, 4, 9, 10, 18] ?_
  rw [hnt]
  simp only [baseS, eq_self, implies_true, if_true, if_false, reduceIte, Nat.reduceBEq, Nat.reduceEqDiff, Nat.reduceLT, Nat.reduceAdd, reduceCtorEq, tyInt, tdInt, tyInts, tdInts, tyHull, tdHull, tyBoxes, tdBoxes, c_spec_l8Weight, c_spec_l8Heel, decide_false, room, Nat.reduceLeDiff, Nat.zero_le, storeAV, rowQ, ownInts, FT.of, FT.setf, elems, appAV_I, appI, srcI, ownI, anyI, sameR, appAV_P, appP, srcP, ownP, anyP, Int.toNat_natCast, Int.one_mul, maxAV]
  repeat (refine And.intro ?_ ?_; focus (first | exact ordP (by kernel_rfl) | with_reducible exact rfl | assumption | trivial | (simp only [inR]; omega) | omega | exact ⟨by omega, by omega⟩ | exact ⟨by omega, by omega, by omega⟩ | exact ⟨hbs, hget1, hok.inb _⟩ | exact hget1 | exact ⟨⟨by omega, by omega⟩, by omega⟩ | exact ⟨Int.ediv_nonneg hq.1 (Int.le_of_lt (Int.pow_pos (by omega))), by omega⟩ | exact hdv | ((try simp only [decide_eq_true_eq, Bool.and_eq_true, ne_eq, decide_not, Bool.not_eq_true', Bool.not_eq_false', Bool.or_eq_false_iff, Bool.not_not, decide_eq_false_iff_not]); (try intro hh); (repeat' apply And.intro) <;> (first | omega | (simp only [inR]; omega) | assumption | exact ⟨hbs, hget1, hok.inb _⟩ | exact hget1 | exact ⟨⟨by omega, by omega⟩, by omega⟩ | exact ⟨Int.ediv_nonneg hq.1 (Int.le_of_lt (Int.pow_pos (by omega))), by omega⟩ | exact hdv | exact hh.1 | exact hh.2 | exact hh.2.1 | exact hh.2.2 | exact hh.1.1 | exact hh.1.2 | (intro hq; exact ⟨hh, hq⟩) | (intro hq; exact ⟨hh.1, hq⟩) | (simp_all; done)))))
  refine hK7 _ ?_
  clear hK7
  refine W_cond (b := _) rfl (fun hc8 => ?_) (fun hc8 => ?_)
  · try simp only [decide_eq_true_eq, decide_eq_false_iff_not, ne_eq, Decidable.not_not, Bool.not_eq_true', Bool.not_eq_false', Bool.or_eq_true, Bool.and_eq_true, Bool.or_eq_false_iff, Bool.and_eq_false_iff] at hc8
    refine W_skip ?_
    simp only [thenQ, blockQ, loopQ, reduceIte, Nat.reduceEqDiff]
    refine hK6 _ ?_
    clear hK6
    refine W_seq (fun K9 hK9 => ?_)
    refine W_block ?_
    refine W_seq (fun K10 hK10 => ?_)
    refine W_region hT hG [] [1, 2, 3, 4, 9, 10, 11] ?_
    rw [hnt]
    simp only [baseS, eq_self, implies_true, if_true, if_false, reduceIte, Nat.reduceBEq, Nat.reduceEqDiff, Nat.reduceLT, Nat.reduceAdd, reduceCtorEq, tyInt, tdInt, tyInts, tdInts, tyHull, tdHull, tyBoxes, tdBoxes, c_spec_l8Weight, c_spec_l8Heel, decide_false, room, Nat.reduceLeDiff, Nat.zero_le, storeAV, rowQ, ownInts, FT.of, FT.setf, elems, appAV_I, appI, srcI, ownI, anyI, sameR, appAV_P, appP, srcP, ownP, anyP, Int.toNat_natCast, Int.one_mul, maxAV]
    repeat (refine And.intro ?_ ?_; focus (first | exact ordP (by kernel_rfl) | with_reducible exact rfl | assumption | trivial | (simp only [inR]; omega) | omega | exact ⟨by omega, by omega⟩ | exact ⟨by omega, by omega, by omega⟩ | exact ⟨hbs, hget1, hok.inb _⟩ | exact hget1 | exact ⟨⟨by omega, by omega⟩, by omega⟩ | exact ⟨Int.ediv_nonneg hq.1 (Int.le_of_lt (Int.pow_pos (by omega))), by omega⟩ | exact hdv | ((try simp only [decide_eq_true_eq, Bool.and_eq_true, ne_eq, decide_not, Bool.not_eq_true', Bool.not_eq_false', Bool.or_eq_false_iff, Bool.not_not, decide_eq_false_iff_not]); (try intro hh); (repeat' apply And.intro) <;> (first | omega | (simp only [inR]; omega) | assumption | exact ⟨hbs, hget1, hok.inb _⟩ | exact hget1 | exact ⟨⟨by omega, by omega⟩, by omega⟩ | exact ⟨Int.ediv_nonneg hq.1 (Int.le_of_lt (Int.pow_pos (by omega))), by omega⟩ | exact hdv | exact hh.1 | exact hh.2 | exact hh.2.1 | exact hh.2.2 | exact hh.1.1 | exact hh.1.2 | (intro hq; exact ⟨hh, hq⟩) | (intro hq; exact ⟨hh.1, hq⟩) | (simp_all; done)))))
    refine hK10 _ ?_
    clear hK10
    refine W_seq (fun K11 hK11 => ?_)
    refine W_seq (fun K12 hK12 => ?_)
    refine W_region hT hG [] [1, 2, 3, 4, 9, 10, 11, 12] ?_
    rw [hnt]
    simp only [baseS, eq_self, implies_true, if_true, if_false, reduceIte, Nat.reduceBEq, Nat.reduceEqDiff, Nat.reduceLT, Nat.reduceAdd, reduceCtorEq, tyInt, tdInt, tyInts, tdInts, tyHull, tdHull, tyBoxes, tdBoxes, c_spec_l8Weight, c_spec_l8Heel, decide_false, room, Nat.reduceLeDiff, Nat.zero_le, storeAV, rowQ, ownInts, FT.of, FT.setf, elems, appAV_I, appI, srcI, ownI, anyI, sameR, appAV_P, appP, srcP, ownP, anyP, Int.toNat_natCast, Int.one_mul, maxAV]
    repeat (refine And.intro ?_ ?_; focus (first | exact ordP (by kernel_rfl) | with_reducible exact rfl | assumption | trivial | (simp only [inR]; omega) | omega | exact ⟨by omega, by omega⟩ | exact ⟨by omega, by omega, by omega⟩ | exact ⟨hbs, hget1, hok.inb _⟩ | exact hget1 | exact ⟨⟨by omega, by omega⟩, by omega⟩ | exact ⟨Int.ediv_nonneg hq.1 (Int.le_of_lt (Int.pow_pos (by omega))), by omega⟩ | exact hdv | ((try simp only [decide_eq_true_eq, Bool.and_eq_true, ne_eq, decide_not, Bool.not_eq_true', Bool.not_eq_false', Bool.or_eq_false_iff, Bool.not_not, decide_eq_false_iff_not]); (try intro hh); (repeat' apply And.intro) <;> (first | omega | (simp only [inR]; omega) | assumption | exact ⟨hbs, hget1, hok.inb _⟩ | exact hget1 | exact ⟨⟨by omega, by omega⟩, by omega⟩ | exact ⟨Int.ediv_nonneg hq.1 (Int.le_of_lt (Int.pow_pos (by omega))), by omega⟩ | exact hdv | exact hh.1 | exact hh.2 | exact hh.2.1 | exact hh.2.2 | exact hh.1.1 | exact hh.1.2 | (intro hq; exact ⟨hh, hq⟩) | (intro hq; exact ⟨hh.1, hq⟩) | (simp_all; done)))))
    refine hK12 _ ?_
    clear hK12
    refine W_block ?_
    refine W_loop (α := Int × Int) [(1, .as), (2, .as), (3, .as), (4, .as), (9, .own 3 .i64), (10, .as), (11, .as), (12, .as)] (fun y => ⟨[(1, .rs .box bs), (2, .rs .i64 p), (3, .rs .i64 s), (4, .rp [.int b, .int r, .int t]), (9, .sl 9), (10, .int q), (11, .int y.1), (12, .int y.2)], [(9, some (.sl 3 .i64 out))], 56⟩) (fun y => (0 ≤ y.2 ∧ y.2 ≤ s.length) ∧ (-(60 * y.2) ≤ y.1 ∧ y.1 ≤ 60 * y.2) ∧ y.1 = setH r t bs p s q y.2.toNat) (fun y => (s.length - y.2).toNat) (0, 0) ?_ ?_ ?_
    · (try simp only [hnt, hnp]); rfl
    · exact ⟨⟨by omega, by dsimp only; omega⟩, ⟨by omega, by omega⟩, rfl⟩
    rintro ⟨hl, k⟩ ⟨hk, hb, hH⟩
    dsimp only at hk hb hH ⊢
    have hdv : 0 ≤ q / 2 ^ k.toNat := Int.ediv_nonneg hq.1 (Int.le_of_lt (Int.pow_pos (by omega)))
    have hget := fun (h : k < (s.length : Int)) => hsl k.toNat (by omega)
    have ha := fun (h : k < (s.length : Int)) => arm_box hok (i := s.getD k.toNat 0) (hget h).1 (hget h).2
    have hw := wAt_le hok.boxes (hok.inb (s.getD k.toNat 0).toNat)
    refine W_seq (fun K14 hK14 => ?_)
    refine W_seq (fun K15 hK15 => ?_)
    refine W_region hT hG [] [1, 2, 3, 4, 9, 10, 11, 12, 24] ?_
    rw [hnt]
    simp only [baseS, eq_self, implies_true, if_true, if_false, reduceIte, Nat.reduceBEq, Nat.reduceEqDiff, Nat.reduceLT, Nat.reduceAdd, reduceCtorEq, tyInt, tdInt, tyInts, tdInts, tyHull, tdHull, tyBoxes, tdBoxes, c_spec_l8Weight, c_spec_l8Heel, decide_false, room, Nat.reduceLeDiff, Nat.zero_le, storeAV, rowQ, ownInts, FT.of, FT.setf, elems, appAV_I, appI, srcI, ownI, anyI, sameR, appAV_P, appP, srcP, ownP, anyP, Int.toNat_natCast, Int.one_mul, maxAV]
    repeat (refine And.intro ?_ ?_; focus (first | exact ordP (by kernel_rfl) | with_reducible exact rfl | assumption | trivial | (simp only [inR]; omega) | omega | exact ⟨by omega, by omega⟩ | exact ⟨by omega, by omega, by omega⟩ | exact ⟨hbs, hget1, hok.inb _⟩ | exact hget1 | exact ⟨⟨by omega, by omega⟩, by omega⟩ | exact ⟨Int.ediv_nonneg hq.1 (Int.le_of_lt (Int.pow_pos (by omega))), by omega⟩ | exact hdv | ((try simp only [decide_eq_true_eq, Bool.and_eq_true, ne_eq, decide_not, Bool.not_eq_true', Bool.not_eq_false', Bool.or_eq_false_iff, Bool.not_not, decide_eq_false_iff_not]); (try intro hh); (repeat' apply And.intro) <;> (first | omega | (simp only [inR]; omega) | assumption | exact ⟨hbs, hget1, hok.inb _⟩ | exact hget1 | exact ⟨⟨by omega, by omega⟩, by omega⟩ | exact ⟨Int.ediv_nonneg hq.1 (Int.le_of_lt (Int.pow_pos (by omega))), by omega⟩ | exact hdv | exact hh.1 | exact hh.2 | exact hh.2.1 | exact hh.2.2 | exact hh.1.1 | exact hh.1.2 | (intro hq; exact ⟨hh, hq⟩) | (intro hq; exact ⟨hh.1, hq⟩) | (simp_all; done)))))
    refine hK15 _ ?_
    clear hK15
    refine W_cond (b := _) rfl (fun hc16 => ?_) (fun hc16 => ?_)
    · try simp only [decide_eq_true_eq, decide_eq_false_iff_not, ne_eq, Decidable.not_not, Bool.not_eq_true', Bool.not_eq_false', Bool.or_eq_true, Bool.and_eq_true, Bool.or_eq_false_iff, Bool.and_eq_false_iff] at hc16
      refine W_skip ?_
      simp only [thenQ, blockQ, loopQ, reduceIte, Nat.reduceEqDiff]
      refine hK14 _ ?_
      clear hK14
      refine W_seq (fun K17 hK17 => ?_)
      refine W_block ?_
      refine W_seq (fun K18 hK18 => ?_)
      refine W_region hT hG [] [1, 2, 3, 4, 9, 10, 11, 12, 31] ?_
      rw [hnt]
      simp only [baseS, eq_self, implies_true, if_true, if_false, reduceIte, Nat.reduceBEq, Nat.reduceEqDiff, Nat.reduceLT, Nat.reduceAdd, reduceCtorEq, tyInt, tdInt, tyInts, tdInts, tyHull, tdHull, tyBoxes, tdBoxes, c_spec_l8Weight, c_spec_l8Heel, decide_false, room, Nat.reduceLeDiff, Nat.zero_le, storeAV, rowQ, ownInts, FT.of, FT.setf, elems, appAV_I, appI, srcI, ownI, anyI, sameR, appAV_P, appP, srcP, ownP, anyP, Int.toNat_natCast, Int.one_mul, maxAV]
      repeat (refine And.intro ?_ ?_; focus (first | exact ordP (by kernel_rfl) | with_reducible exact rfl | assumption | trivial | (simp only [inR]; omega) | omega | exact ⟨by omega, by omega⟩ | exact ⟨by omega, by omega, by omega⟩ | exact ⟨hbs, hget1, hok.inb _⟩ | exact hget1 | exact ⟨⟨by omega, by omega⟩, by omega⟩ | exact ⟨Int.ediv_nonneg hq.1 (Int.le_of_lt (Int.pow_pos (by omega))), by omega⟩ | exact hdv | ((try simp only [decide_eq_true_eq, Bool.and_eq_true, ne_eq, decide_not, Bool.not_eq_true', Bool.not_eq_false', Bool.or_eq_false_iff, Bool.not_not, decide_eq_false_iff_not]); (try intro hh); (repeat' apply And.intro) <;> (first | omega | (simp only [inR]; omega) | assumption | exact ⟨hbs, hget1, hok.inb _⟩ | exact hget1 | exact ⟨⟨by omega, by omega⟩, by omega⟩ | exact ⟨Int.ediv_nonneg hq.1 (Int.le_of_lt (Int.pow_pos (by omega))), by omega⟩ | exact hdv | exact hh.1 | exact hh.2 | exact hh.2.1 | exact hh.2.2 | exact hh.1.1 | exact hh.1.2 | (intro hq; exact ⟨hh, hq⟩) | (intro hq; exact ⟨hh.1, hq⟩) | (simp_all; done)))))
      refine hK18 _ ?_
      clear hK18
      refine W_cond (b := _) rfl (fun hc19 => ?_) (fun hc19 => ?_)
      · try simp only [decide_eq_true_eq, decide_eq_false_iff_not, ne_eq, Decidable.not_not, Bool.not_eq_true', Bool.not_eq_false', Bool.or_eq_true, Bool.and_eq_true, Bool.or_eq_false_iff, Bool.and_eq_false_iff] at hc19
        refine W_region_draw hT hG (by rw [hP]; exact draws_ok) [] [1, 2, 3, 4, 9, 10, 11, 12] ?_
        rw [hnt]
        have hget1 := hget hc16
        have ha1 := ha hc16
        simp only [baseS, eq_self, implies_true, if_true, if_false, reduceIte, Nat.reduceBEq, Nat.reduceEqDiff, Nat.reduceLT, Nat.reduceAdd, reduceCtorEq, tyInt, tdInt, tyInts, tdInts, tyHull, tdHull, tyBoxes, tdBoxes, c_spec_l8Weight, c_spec_l8Heel, decide_false, room, Nat.reduceLeDiff, Nat.zero_le, storeAV, rowQ, ownInts, FT.of, FT.setf, elems, appAV_I, appI, srcI, ownI, anyI, sameR, appAV_P, appP, srcP, ownP, anyP, Int.toNat_natCast, Int.one_mul, maxAV, ha1.1.1]
        repeat (refine And.intro ?_ ?_; focus (first | exact ordP (by kernel_rfl) | with_reducible exact rfl | assumption | trivial | (simp only [inR]; omega) | omega | exact ⟨by omega, by omega⟩ | exact ⟨by omega, by omega, by omega⟩ | exact ⟨hbs, hget1, hok.inb _⟩ | exact hget1 | exact ⟨⟨by omega, by omega⟩, by omega⟩ | exact ⟨Int.ediv_nonneg hq.1 (Int.le_of_lt (Int.pow_pos (by omega))), by omega⟩ | exact hdv | ((try simp only [decide_eq_true_eq, Bool.and_eq_true, ne_eq, decide_not, Bool.not_eq_true', Bool.not_eq_false', Bool.or_eq_false_iff, Bool.not_not, decide_eq_false_iff_not]); (try intro hh); (repeat' apply And.intro) <;> (first | omega | (simp only [inR]; omega) | assumption | exact ⟨hbs, hget1, hok.inb _⟩ | exact hget1 | exact ⟨⟨by omega, by omega⟩, by omega⟩ | exact ⟨Int.ediv_nonneg hq.1 (Int.le_of_lt (Int.pow_pos (by omega))), by omega⟩ | exact hdv | exact hh.1 | exact hh.2 | exact hh.2.1 | exact hh.2.2 | exact hh.1.1 | exact hh.1.2 | (intro hq; exact ⟨hh, hq⟩) | (intro hq; exact ⟨hh.1, hq⟩) | (simp_all; done)))))
        refine hK17 _ ?_
        clear hK17
        refine W_region hT hG [] [1, 2, 3, 4, 9, 10, 11, 12] ?_
        rw [hnt]
        simp only [baseS, eq_self, implies_true, if_true, if_false, reduceIte, Nat.reduceBEq, Nat.reduceEqDiff, Nat.reduceLT, Nat.reduceAdd, reduceCtorEq, tyInt, tdInt, tyInts, tdInts, tyHull, tdHull, tyBoxes, tdBoxes, c_spec_l8Weight, c_spec_l8Heel, decide_false, room, Nat.reduceLeDiff, Nat.zero_le, storeAV, rowQ, ownInts, FT.of, FT.setf, elems, appAV_I, appI, srcI, ownI, anyI, sameR, appAV_P, appP, srcP, ownP, anyP, Int.toNat_natCast, Int.one_mul, maxAV]
        repeat (refine And.intro ?_ ?_; focus (first | exact ordP (by kernel_rfl) | with_reducible exact rfl | assumption | trivial | (simp only [inR]; omega) | omega | exact ⟨by omega, by omega⟩ | exact ⟨by omega, by omega, by omega⟩ | exact ⟨hbs, hget1, hok.inb _⟩ | exact hget1 | exact ⟨⟨by omega, by omega⟩, by omega⟩ | exact ⟨Int.ediv_nonneg hq.1 (Int.le_of_lt (Int.pow_pos (by omega))), by omega⟩ | exact hdv | ((try simp only [decide_eq_true_eq, Bool.and_eq_true, ne_eq, decide_not, Bool.not_eq_true', Bool.not_eq_false', Bool.or_eq_false_iff, Bool.not_not, decide_eq_false_iff_not]); (try intro hh); (repeat' apply And.intro) <;> (first | omega | (simp only [inR]; omega) | assumption | exact ⟨hbs, hget1, hok.inb _⟩ | exact hget1 | exact ⟨⟨by omega, by omega⟩, by omega⟩ | exact ⟨Int.ediv_nonneg hq.1 (Int.le_of_lt (Int.pow_pos (by omega))), by omega⟩ | exact hdv | exact hh.1 | exact hh.2 | exact hh.2.1 | exact hh.2.2 | exact hh.1.1 | exact hh.1.2 | (intro hq; exact ⟨hh, hq⟩) | (intro hq; exact ⟨hh.1, hq⟩) | (simp_all; done)))))
        first
        | (have hst := @setH_yes r t bs p s q k hk.1 hc19
           have ha1 := ha hc16
           refine ⟨(hl + wAt bs (p.getD (s.getD k.toNat 0).toNat 0) * (2 * (s.getD k.toNat 0 / t % r) - (r - 1)), k + 1), (by (try simp only [hnt, hnp]); rfl), ⟨by dsimp only; omega, by dsimp only; omega, by dsimp only; rw [hst, hH]⟩, by dsimp only; omega⟩)
        | (have hst := @setH_no r t bs p s q k hk.1 hc19
           refine ⟨(hl, k + 1), (by (try simp only [hnt, hnp]); rfl), ⟨by dsimp only; omega, by dsimp only; omega, by dsimp only; rw [hst, hH]⟩, by dsimp only; omega⟩)
      · try simp only [decide_eq_true_eq, decide_eq_false_iff_not, ne_eq, Decidable.not_not, Bool.not_eq_true', Bool.not_eq_false', Bool.or_eq_true, Bool.and_eq_true, Bool.or_eq_false_iff, Bool.and_eq_false_iff] at hc19
        refine W_skip ?_
        simp only [thenQ, blockQ, loopQ, reduceIte, Nat.reduceEqDiff]
        refine hK17 _ ?_
        clear hK17
        refine W_region hT hG [] [1, 2, 3, 4, 9, 10, 11, 12] ?_
        rw [hnt]
        simp only [baseS, eq_self, implies_true, if_true, if_false, reduceIte, Nat.reduceBEq, Nat.reduceEqDiff, Nat.reduceLT, Nat.reduceAdd, reduceCtorEq, tyInt, tdInt, tyInts, tdInts, tyHull, tdHull, tyBoxes, tdBoxes, c_spec_l8Weight, c_spec_l8Heel, decide_false, room, Nat.reduceLeDiff, Nat.zero_le, storeAV, rowQ, ownInts, FT.of, FT.setf, elems, appAV_I, appI, srcI, ownI, anyI, sameR, appAV_P, appP, srcP, ownP, anyP, Int.toNat_natCast, Int.one_mul, maxAV]
        repeat (refine And.intro ?_ ?_; focus (first | exact ordP (by kernel_rfl) | with_reducible exact rfl | assumption | trivial | (simp only [inR]; omega) | omega | exact ⟨by omega, by omega⟩ | exact ⟨by omega, by omega, by omega⟩ | exact ⟨hbs, hget1, hok.inb _⟩ | exact hget1 | exact ⟨⟨by omega, by omega⟩, by omega⟩ | exact ⟨Int.ediv_nonneg hq.1 (Int.le_of_lt (Int.pow_pos (by omega))), by omega⟩ | exact hdv | ((try simp only [decide_eq_true_eq, Bool.and_eq_true, ne_eq, decide_not, Bool.not_eq_true', Bool.not_eq_false', Bool.or_eq_false_iff, Bool.not_not, decide_eq_false_iff_not]); (try intro hh); (repeat' apply And.intro) <;> (first | omega | (simp only [inR]; omega) | assumption | exact ⟨hbs, hget1, hok.inb _⟩ | exact hget1 | exact ⟨⟨by omega, by omega⟩, by omega⟩ | exact ⟨Int.ediv_nonneg hq.1 (Int.le_of_lt (Int.pow_pos (by omega))), by omega⟩ | exact hdv | exact hh.1 | exact hh.2 | exact hh.2.1 | exact hh.2.2 | exact hh.1.1 | exact hh.1.2 | (intro hq; exact ⟨hh, hq⟩) | (intro hq; exact ⟨hh.1, hq⟩) | (simp_all; done)))))
        first
        | (have hst := @setH_yes r t bs p s q k hk.1 hc19
           have ha1 := ha hc16
           refine ⟨(hl + wAt bs (p.getD (s.getD k.toNat 0).toNat 0) * (2 * (s.getD k.toNat 0 / t % r) - (r - 1)), k + 1), (by (try simp only [hnt, hnp]); rfl), ⟨by dsimp only; omega, by dsimp only; omega, by dsimp only; rw [hst, hH]⟩, by dsimp only; omega⟩)
        | (have hst := @setH_no r t bs p s q k hk.1 hc19
           refine ⟨(hl, k + 1), (by (try simp only [hnt, hnp]); rfl), ⟨by dsimp only; omega, by dsimp only; omega, by dsimp only; rw [hst, hH]⟩, by dsimp only; omega⟩)
    · try simp only [decide_eq_true_eq, decide_eq_false_iff_not, ne_eq, Decidable.not_not, Bool.not_eq_true', Bool.not_eq_false', Bool.or_eq_true, Bool.and_eq_true, Bool.or_eq_false_iff, Bool.and_eq_false_iff] at hc16
      refine W_exit ?_
      simp only [thenQ, blockQ, loopQ, reduceIte, Nat.reduceEqDiff]
      refine hK11 _ ?_
      clear hK11
      refine W_region hT hG [] [1, 2, 3, 4, 9, 10] ?_
      rw [hnt]
      simp only [baseS, eq_self, implies_true, if_true, if_false, reduceIte, Nat.reduceBEq, Nat.reduceEqDiff, Nat.reduceLT, Nat.reduceAdd, reduceCtorEq, tyInt, tdInt, tyInts, tdInts, tyHull, tdHull, tyBoxes, tdBoxes, c_spec_l8Weight, c_spec_l8Heel, decide_false, room, Nat.reduceLeDiff, Nat.zero_le, storeAV, rowQ, ownInts, FT.of, FT.setf, elems, appAV_I, appI, srcI, ownI, anyI, sameR, appAV_P, appP, srcP, ownP, anyP, Int.toNat_natCast, Int.one_mul, maxAV]
      repeat (refine And.intro ?_ ?_; focus (first | exact ordP (by kernel_rfl) | with_reducible exact rfl | assumption | trivial | (simp only [inR]; omega) | omega | exact ⟨by omega, by omega⟩ | exact ⟨by omega, by omega, by omega⟩ | exact ⟨hbs, hget1, hok.inb _⟩ | exact hget1 | exact ⟨⟨by omega, by omega⟩, by omega⟩ | exact ⟨Int.ediv_nonneg hq.1 (Int.le_of_lt (Int.pow_pos (by omega))), by omega⟩ | exact hdv | ((try simp only [decide_eq_true_eq, Bool.and_eq_true, ne_eq, decide_not, Bool.not_eq_true', Bool.not_eq_false', Bool.or_eq_false_iff, Bool.not_not, decide_eq_false_iff_not]); (try intro hh); (repeat' apply And.intro) <;> (first | omega | (simp only [inR]; omega) | assumption | exact ⟨hbs, hget1, hok.inb _⟩ | exact hget1 | exact ⟨⟨by omega, by omega⟩, by omega⟩ | exact ⟨Int.ediv_nonneg hq.1 (Int.le_of_lt (Int.pow_pos (by omega))), by omega⟩ | exact hdv | exact hh.1 | exact hh.2 | exact hh.2.1 | exact hh.2.2 | exact hh.1.1 | exact hh.1.2 | (intro hq; exact ⟨hh, hq⟩) | (intro hq; exact ⟨hh.1, hq⟩) | (simp_all; done)))))
      refine hK9 _ ?_
      clear hK9
      refine W_region hT hG [] [1, 2, 3, 4, 9, 10] ?_
      rw [hnt]
      simp only [baseS, eq_self, implies_true, if_true, if_false, reduceIte, Nat.reduceBEq, Nat.reduceEqDiff, Nat.reduceLT, Nat.reduceAdd, reduceCtorEq, tyInt, tdInt, tyInts, tdInts, tyHull, tdHull, tyBoxes, tdBoxes, c_spec_l8Weight, c_spec_l8Heel, decide_false, room, Nat.reduceLeDiff, Nat.zero_le, storeAV, rowQ, ownInts, FT.of, FT.setf, elems, appAV_I, appI, srcI, ownI, anyI, sameR, appAV_P, appP, srcP, ownP, anyP, Int.toNat_natCast, Int.one_mul, maxAV]
      repeat (refine And.intro ?_ ?_; focus (first | exact ordP (by kernel_rfl) | with_reducible exact rfl | assumption | trivial | (simp only [inR]; omega) | omega | exact ⟨by omega, by omega⟩ | exact ⟨by omega, by omega, by omega⟩ | exact ⟨hbs, hget1, hok.inb _⟩ | exact hget1 | exact ⟨⟨by omega, by omega⟩, by omega⟩ | exact ⟨Int.ediv_nonneg hq.1 (Int.le_of_lt (Int.pow_pos (by omega))), by omega⟩ | exact hdv | ((try simp only [decide_eq_true_eq, Bool.and_eq_true, ne_eq, decide_not, Bool.not_eq_true', Bool.not_eq_false', Bool.or_eq_false_iff, Bool.not_not, decide_eq_false_iff_not]); (try intro hh); (repeat' apply And.intro) <;> (first | omega | (simp only [inR]; omega) | assumption | exact ⟨hbs, hget1, hok.inb _⟩ | exact hget1 | exact ⟨⟨by omega, by omega⟩, by omega⟩ | exact ⟨Int.ediv_nonneg hq.1 (Int.le_of_lt (Int.pow_pos (by omega))), by omega⟩ | exact hdv | exact hh.1 | exact hh.2 | exact hh.2.1 | exact hh.2.2 | exact hh.1.1 | exact hh.1.2 | (intro hq; exact ⟨hh, hq⟩) | (intro hq; exact ⟨hh.1, hq⟩) | (simp_all; done)))))
      have hfin := @heelsF_step r t bs p s q hq.1
      have ek : k.toNat = s.length := by omega
      rw [ek] at hH
      refine ⟨(q + 1, out ++ [max hl (-hl)]), (by (try simp only [hnt, hnp]); rfl), ⟨⟨by dsimp only; omega, by dsimp only; omega⟩, by dsimp only; rw [hfin, hO, hH]⟩, by dsimp only; omega⟩
  · try simp only [decide_eq_true_eq, decide_eq_false_iff_not, ne_eq, Decidable.not_not, Bool.not_eq_true', Bool.not_eq_false', Bool.or_eq_true, Bool.and_eq_true, Bool.or_eq_false_iff, Bool.and_eq_false_iff] at hc8
    refine W_exit ?_
    simp only [thenQ, blockQ, loopQ, reduceIte, Nat.reduceEqDiff]
    refine hK3 _ ?_
    clear hK3
    refine W_seq (fun K20 hK20 => ?_)
    refine W_region hT hG [] [8] ?_
    rw [hnt]
    simp only [baseS, eq_self, implies_true, if_true, if_false, reduceIte, Nat.reduceBEq, Nat.reduceEqDiff, Nat.reduceLT, Nat.reduceAdd, reduceCtorEq, tyInt, tdInt, tyInts, tdInts, tyHull, tdHull, tyBoxes, tdBoxes, c_spec_l8Weight, c_spec_l8Heel, decide_false, room, Nat.reduceLeDiff, Nat.zero_le, storeAV, rowQ, ownInts, FT.of, FT.setf, elems, appAV_I, appI, srcI, ownI, anyI, sameR, appAV_P, appP, srcP, ownP, anyP, Int.toNat_natCast, Int.one_mul, maxAV]
    repeat (refine And.intro ?_ ?_; focus (first | exact ordP (by kernel_rfl) | with_reducible exact rfl | assumption | trivial | (simp only [inR]; omega) | omega | exact ⟨by omega, by omega⟩ | exact ⟨by omega, by omega, by omega⟩ | exact ⟨hbs, hget1, hok.inb _⟩ | exact hget1 | exact ⟨⟨by omega, by omega⟩, by omega⟩ | exact ⟨Int.ediv_nonneg hq.1 (Int.le_of_lt (Int.pow_pos (by omega))), by omega⟩ | exact hdv | ((try simp only [decide_eq_true_eq, Bool.and_eq_true, ne_eq, decide_not, Bool.not_eq_true', Bool.not_eq_false', Bool.or_eq_false_iff, Bool.not_not, decide_eq_false_iff_not]); (try intro hh); (repeat' apply And.intro) <;> (first | omega | (simp only [inR]; omega) | assumption | exact ⟨hbs, hget1, hok.inb _⟩ | exact hget1 | exact ⟨⟨by omega, by omega⟩, by omega⟩ | exact ⟨Int.ediv_nonneg hq.1 (Int.le_of_lt (Int.pow_pos (by omega))), by omega⟩ | exact hdv | exact hh.1 | exact hh.2 | exact hh.2.1 | exact hh.2.2 | exact hh.1.1 | exact hh.1.2 | (intro hq; exact ⟨hh, hq⟩) | (intro hq; exact ⟨hh.1, hq⟩) | (simp_all; done)))))
    refine hK20 _ ?_
    clear hK20
    refine W_re [(8, .own 3 .i64)] (by (try simp only [hnt, hnp]); rfl) ?_
    refine W_ret ?_
    simp only [thenQ, blockQ, loopQ, retQ, reduceIte, Nat.reduceEqDiff]
    refine ret1s 8 rfl rfl rfl ?_
    all_goals (
      rw [hO, show q.toNat = 2 ^ s.length from (by omega)])

def c_spec_l9Next : Ctr where
  modes := [.v .p, .v (.r .i64), .v .p, .v .p]
  al := false
  run := fun xs os => match xs, os with
    | [.agg [.int b, .int r, .int t], .rs .i64 s, .int x, .int k], [] => some ⟨s.length ≤ 7 ∧ 0 ≤ x ∧ (0 ≤ k ∧ k < s.length), .bool (nxtB b r t s x k.toNat), [], []⟩
    | _, _ => none
theorem m_spec_l9Next : Meets Try.prog 102 c_spec_l9Next := by
  refine meets_of (T := tyT) tyOK Try.func102 (by rfl) rfl (by decide) ?_
  intro args owns R hrun hpre
  simp only [c_spec_l9Next] at hrun
  split at hrun
  case h_2 => cases hrun
  rename_i b r t s x k
  cases hrun
  try dsimp only at hpre
  refine ⟨_, rfl, fun E hP hnt hnp => ?_⟩
  replace hnt : E.nt = 41 := hnt
  replace hnp : E.np = 4 := hnp
  have hT : ∀ t d, tyT t = some d → TyOK E.P t d := hP ▸ tyOK
  have hG : ∀ f C, Γof [(84, c_spec_SlotBelow)] f = some C → Meets E.P f C := hΓof (by rw [hP]; exact ⟨m_spec_SlotBelow, trivial⟩)
  try simp only [show Try.f102.ntmps = 41 from rfl]
  have hs7 := hpre.1
  have hx0 := hpre.2.1
  have hk := hpre.2.2
  have hdk : 0 ≤ x / 2 ^ k.toNat := Int.ediv_nonneg hx0 (Int.le_of_lt (Int.pow_pos (by omega)))
  refine W_seq (fun K1 hK1 => ?_)
  refine W_region hT hG [] [1, 2, 3, 4] ?_
  rw [hnt]
  simp only [baseS, eq_self, implies_true, if_true, if_false, reduceIte, Nat.reduceBEq, Nat.reduceEqDiff, Nat.reduceLT, Nat.reduceAdd, reduceCtorEq, tyInt, tdInt, tyInts, tdInts, tyHull, tdHull, c_spec_SlotBelow, decide_false, room, Nat.reduceLeDiff, Nat.zero_le, storeAV, rowQ, ownInts, FT.of, FT.setf, elems, appAV_I, appI, srcI, ownI, anyI, sameR, appAV_P, appP, srcP, ownP, anyP, Int.toNat_natCast, Int.one_mul, maxAV]
  repeat (refine And.intro ?_ ?_; focus (first | exact ordP (by kernel_rfl) | with_reducible exact rfl | assumption | trivial | (simp only [inR]; omega) | omega | exact ⟨by omega, by omega⟩ | exact ⟨by omega, by omega, by omega⟩ | exact ⟨Int.ediv_nonneg hx0 (Int.le_of_lt (Int.pow_pos (by omega))), by omega⟩ | exact hdv | ((try simp only [decide_eq_true_eq, Bool.and_eq_true, ne_eq, decide_not, Bool.not_eq_true', Bool.not_eq_false', Bool.or_eq_false_iff, Bool.not_not, decide_eq_false_iff_not]); (try intro hh); (repeat' apply And.intro) <;> (first | omega | (simp only [inR]; omega) | assumption | exact ⟨Int.ediv_nonneg hx0 (Int.le_of_lt (Int.pow_pos (by omega))), by omega⟩ | exact hdv | exact hh.1 | exact hh.2 | exact hh.2.1 | exact hh.2.2 | exact hh.1.1 | exact hh.1.2 | (intro hq; exact ⟨hh, hq⟩) | (intro hq; exact ⟨hh.1, hq⟩) | (simp_all; done)))))
  refine hK1 _ ?_
  clear hK1
  refine W_seq (fun K2 hK2 => ?_)
  refine W_region_draw hT hG (by rw [hP]; exact draws_ok) [] [1, 2, 3, 9] ?_
  rw [hnt]
  simp only [baseS, eq_self, implies_true, if_true, if_false, reduceIte, Nat.reduceBEq, Nat.reduceEqDiff, Nat.reduceLT, Nat.reduceAdd, reduceCtorEq, tyInt, tdInt, tyInts, tdInts, tyHull, tdHull, c_spec_SlotBelow, decide_false, room, Nat.reduceLeDiff, Nat.zero_le, storeAV, rowQ, ownInts, FT.of, FT.setf, elems, appAV_I, appI, srcI, ownI, anyI, sameR, appAV_P, appP, srcP, ownP, anyP, Int.toNat_natCast, Int.one_mul, maxAV]
  repeat (refine And.intro ?_ ?_; focus (first | exact ordP (by kernel_rfl) | with_reducible exact rfl | assumption | trivial | (simp only [inR]; omega) | omega | exact ⟨by omega, by omega⟩ | exact ⟨by omega, by omega, by omega⟩ | exact ⟨Int.ediv_nonneg hx0 (Int.le_of_lt (Int.pow_pos (by omega))), by omega⟩ | exact hdv | ((try simp only [decide_eq_true_eq, Bool.and_eq_true, ne_eq, decide_not, Bool.not_eq_true', Bool.not_eq_false', Bool.or_eq_false_iff, Bool.not_not, decide_eq_false_iff_not]); (try intro hh); (repeat' apply And.intro) <;> (first | omega | (simp only [inR]; omega) | assumption | exact ⟨Int.ediv_nonneg hx0 (Int.le_of_lt (Int.pow_pos (by omega))), by omega⟩ | exact hdv | exact hh.1 | exact hh.2 | exact hh.2.1 | exact hh.2.2 | exact hh.1.1 | exact hh.1.2 | (intro hq; exact ⟨hh, hq⟩) | (intro hq; exact ⟨hh.1, hq⟩) | (simp_all; done)))))
  refine hK2 _ ?_
  clear hK2
  refine W_seq (fun K3 hK3 => ?_)
  refine W_seq (fun K4 hK4 => ?_)
  refine W_region hT hG [] [1, 2, 9, 21] ?_
  rw [hnt]
  simp only [baseS, eq_self, implies_true, if_true, if_false, reduceIte, Nat.reduceBEq, Nat.reduceEqDiff, Nat.reduceLT, Nat.reduceAdd, reduceCtorEq, tyInt, tdInt, tyInts, tdInts, tyHull, tdHull, c_spec_SlotBelow, decide_false, room, Nat.reduceLeDiff, Nat.zero_le, storeAV, rowQ, ownInts, FT.of, FT.setf, elems, appAV_I, appI, srcI, ownI, anyI, sameR, appAV_P, appP, srcP, ownP, anyP, Int.toNat_natCast, Int.one_mul, maxAV]
  repeat (refine And.intro ?_ ?_; focus (first | exact ordP (by kernel_rfl) | with_reducible exact rfl | assumption | trivial | (simp only [inR]; omega) | omega | exact ⟨by omega, by omega⟩ | exact ⟨by omega, by omega, by omega⟩ | exact ⟨Int.ediv_nonneg hx0 (Int.le_of_lt (Int.pow_pos (by omega))), by omega⟩ | exact hdv | ((try simp only [decide_eq_true_eq, Bool.and_eq_true, ne_eq, decide_not, Bool.not_eq_true', Bool.not_eq_false', Bool.or_eq_false_iff, Bool.not_not, decide_eq_false_iff_not]); (try intro hh); (repeat' apply And.intro) <;> (first | omega | (simp only [inR]; omega) | assumption | exact ⟨Int.ediv_nonneg hx0 (Int.le_of_lt (Int.pow_pos (by omega))), by omega⟩ | exact hdv | exact hh.1 | exact hh.2 | exact hh.2.1 | exact hh.2.2 | exact hh.1.1 | exact hh.1.2 | (intro hq; exact ⟨hh, hq⟩) | (intro hq; exact ⟨hh.1, hq⟩) | (simp_all; done)))))
  refine hK4 _ ?_
  clear hK4
  refine W_cond (b := _) rfl (fun hc5 => ?_) (fun hc5 => ?_)
  · try simp only [decide_eq_true_eq, decide_eq_false_iff_not, ne_eq, Decidable.not_not, Bool.not_eq_true', Bool.not_eq_false', Bool.or_eq_true, Bool.and_eq_true, Bool.or_eq_false_iff, Bool.and_eq_false_iff] at hc5
    refine W_seq (fun K6 hK6 => ?_)
    refine W_region hT hG [] [8] ?_
    rw [hnt]
    simp only [baseS, eq_self, implies_true, if_true, if_false, reduceIte, Nat.reduceBEq, Nat.reduceEqDiff, Nat.reduceLT, Nat.reduceAdd, reduceCtorEq, tyInt, tdInt, tyInts, tdInts, tyHull, tdHull, c_spec_SlotBelow, decide_false, room, Nat.reduceLeDiff, Nat.zero_le, storeAV, rowQ, ownInts, FT.of, FT.setf, elems, appAV_I, appI, srcI, ownI, anyI, sameR, appAV_P, appP, srcP, ownP, anyP, Int.toNat_natCast, Int.one_mul, maxAV]
    repeat (refine And.intro ?_ ?_; focus (first | exact ordP (by kernel_rfl) | with_reducible exact rfl | assumption | trivial | (simp only [inR]; omega) | omega | exact ⟨by omega, by omega⟩ | exact ⟨by omega, by omega, by omega⟩ | exact ⟨Int.ediv_nonneg hx0 (Int.le_of_lt (Int.pow_pos (by omega))), by omega⟩ | exact hdv | ((try simp only [decide_eq_true_eq, Bool.and_eq_true, ne_eq, decide_not, Bool.not_eq_true', Bool.not_eq_false', Bool.or_eq_false_iff, Bool.not_not, decide_eq_false_iff_not]); (try intro hh); (repeat' apply And.intro) <;> (first | omega | (simp only [inR]; omega) | assumption | exact ⟨Int.ediv_nonneg hx0 (Int.le_of_lt (Int.pow_pos (by omega))), by omega⟩ | exact hdv | exact hh.1 | exact hh.2 | exact hh.2.1 | exact hh.2.2 | exact hh.1.1 | exact hh.1.2 | (intro hq; exact ⟨hh, hq⟩) | (intro hq; exact ⟨hh.1, hq⟩) | (simp_all; done)))))
    refine hK6 _ ?_
    clear hK6
    refine W_ret ?_
    simp only [thenQ, blockQ, loopQ, retQ, reduceIte, Nat.reduceEqDiff]
    refine ret0 ?_ rfl rfl (.inr rfl) rfl
    simp only [show Try.f102.results.toList = [ResultVar.tmp 8] from rfl, resAV, resL, look, Nat.reduceEqDiff, reduceIte, tyHull, tdHull, applyUps, noH, isStr, List.length_cons, List.length_nil, Nat.reduceAdd, and_self]
    all_goals (
      refine congrArg (fun x => some (AV.bool x)) ?_
      first | exact next_bit hc5 | exact nxt_no (by omega) (ok_bad hc5) | exact nxt_yes hc5 hI hc5)
  · try simp only [decide_eq_true_eq, decide_eq_false_iff_not, ne_eq, Decidable.not_not, Bool.not_eq_true', Bool.not_eq_false', Bool.or_eq_true, Bool.and_eq_true, Bool.or_eq_false_iff, Bool.and_eq_false_iff] at hc5
    refine W_skip ?_
    simp only [thenQ, blockQ, loopQ, reduceIte, Nat.reduceEqDiff]
    refine hK3 _ ?_
    clear hK3
    refine W_seq (fun K7 hK7 => ?_)
    refine W_seq (fun K8 hK8 => ?_)
    refine W_region hT hG [] [1, 2, 9, 10] ?_
    rw [hnt]
    simp only [baseS, eq_self, implies_true, if_true, if_false, reduceIte, Nat.reduceBEq, Nat.reduceEqDiff, Nat.reduceLT, Nat.reduceAdd, reduceCtorEq, tyInt, tdInt, tyInts, tdInts, tyHull, tdHull, c_spec_SlotBelow, decide_false, room, Nat.reduceLeDiff, Nat.zero_le, storeAV, rowQ, ownInts, FT.of, FT.setf, elems, appAV_I, appI, srcI, ownI, anyI, sameR, appAV_P, appP, srcP, ownP, anyP, Int.toNat_natCast, Int.one_mul, maxAV]
    repeat (refine And.intro ?_ ?_; focus (first | exact ordP (by kernel_rfl) | with_reducible exact rfl | assumption | trivial | (simp only [inR]; omega) | omega | exact ⟨by omega, by omega⟩ | exact ⟨by omega, by omega, by omega⟩ | exact ⟨Int.ediv_nonneg hx0 (Int.le_of_lt (Int.pow_pos (by omega))), by omega⟩ | exact hdv | ((try simp only [decide_eq_true_eq, Bool.and_eq_true, ne_eq, decide_not, Bool.not_eq_true', Bool.not_eq_false', Bool.or_eq_false_iff, Bool.not_not, decide_eq_false_iff_not]); (try intro hh); (repeat' apply And.intro) <;> (first | omega | (simp only [inR]; omega) | assumption | exact ⟨Int.ediv_nonneg hx0 (Int.le_of_lt (Int.pow_pos (by omega))), by omega⟩ | exact hdv | exact hh.1 | exact hh.2 | exact hh.2.1 | exact hh.2.2 | exact hh.1.1 | exact hh.1.2 | (intro hq; exact ⟨hh, hq⟩) | (intro hq; exact ⟨hh.1, hq⟩) | (simp_all; done)))))
    refine hK8 _ ?_
    clear hK8
    refine W_block ?_
    refine W_loop (α := Int) [(1, .as), (2, .as), (9, .as), (10, .as)] (fun j => ⟨[(1, .rs .i64 s), (2, .int x), (9, .int (belF b r t (s.getD k.toNat 0))), (10, .int j)], [], 41⟩) (fun j => (0 ≤ j ∧ j ≤ s.length) ∧ ∀ i : Nat, (i : Int) < j → okJ b r t s x k.toNat i = true) (fun j => (s.length - j).toNat) 0 ?_ ?_ ?_
    · (try simp only [hnt, hnp]); rfl
    · exact ⟨⟨by omega, by omega⟩, fun i hi => by omega⟩
    rintro j ⟨hj, hI⟩
    have hdv : 0 ≤ x / 2 ^ j.toNat := Int.ediv_nonneg hx0 (Int.le_of_lt (Int.pow_pos (by omega)))
    refine W_seq (fun K10 hK10 => ?_)
    refine W_seq (fun K11 hK11 => ?_)
    refine W_region hT hG [] [1, 2, 9, 10, 25] ?_
    rw [hnt]
    simp only [baseS, eq_self, implies_true, if_true, if_false, reduceIte, Nat.reduceBEq, Nat.reduceEqDiff, Nat.reduceLT, Nat.reduceAdd, reduceCtorEq, tyInt, tdInt, tyInts, tdInts, tyHull, tdHull, c_spec_SlotBelow, decide_false, room, Nat.reduceLeDiff, Nat.zero_le, storeAV, rowQ, ownInts, FT.of, FT.setf, elems, appAV_I, appI, srcI, ownI, anyI, sameR, appAV_P, appP, srcP, ownP, anyP, Int.toNat_natCast, Int.one_mul, maxAV]
    repeat (refine And.intro ?_ ?_; focus (first | exact ordP (by kernel_rfl) | with_reducible exact rfl | assumption | trivial | (simp only [inR]; omega) | omega | exact ⟨by omega, by omega⟩ | exact ⟨by omega, by omega, by omega⟩ | exact ⟨Int.ediv_nonneg hx0 (Int.le_of_lt (Int.pow_pos (by omega))), by omega⟩ | exact hdv | ((try simp only [decide_eq_true_eq, Bool.and_eq_true, ne_eq, decide_not, Bool.not_eq_true', Bool.not_eq_false', Bool.or_eq_false_iff, Bool.not_not, decide_eq_false_iff_not]); (try intro hh); (repeat' apply And.intro) <;> (first | omega | (simp only [inR]; omega) | assumption | exact ⟨Int.ediv_nonneg hx0 (Int.le_of_lt (Int.pow_pos (by omega))), by omega⟩ | exact hdv | exact hh.1 | exact hh.2 | exact hh.2.1 | exact hh.2.2 | exact hh.1.1 | exact hh.1.2 | (intro hq; exact ⟨hh, hq⟩) | (intro hq; exact ⟨hh.1, hq⟩) | (simp_all; done)))))
    refine hK11 _ ?_
    clear hK11
    refine W_cond (b := _) rfl (fun hc12 => ?_) (fun hc12 => ?_)
    · try simp only [decide_eq_true_eq, decide_eq_false_iff_not, ne_eq, Decidable.not_not, Bool.not_eq_true', Bool.not_eq_false', Bool.or_eq_true, Bool.and_eq_true, Bool.or_eq_false_iff, Bool.and_eq_false_iff] at hc12
      refine W_skip ?_
      simp only [thenQ, blockQ, loopQ, reduceIte, Nat.reduceEqDiff]
      refine hK10 _ ?_
      clear hK10
      refine W_seq (fun K13 hK13 => ?_)
      refine W_block ?_
      refine W_seq (fun K14 hK14 => ?_)
      refine W_region hT hG [] [1, 2, 9, 10, 40] ?_
      rw [hnt]
      simp only [baseS, eq_self, implies_true, if_true, if_false, reduceIte, Nat.reduceBEq, Nat.reduceEqDiff, Nat.reduceLT, Nat.reduceAdd, reduceCtorEq, tyInt, tdInt, tyInts, tdInts, tyHull, tdHull, c_spec_SlotBelow, decide_false, room, Nat.reduceLeDiff, Nat.zero_le, storeAV, rowQ, ownInts, FT.of, FT.setf, elems, appAV_I, appI, srcI, ownI, anyI, sameR, appAV_P, appP, srcP, ownP, anyP, Int.toNat_natCast, Int.one_mul, maxAV]
      repeat (refine And.intro ?_ ?_; focus (first | exact ordP (by kernel_rfl) | with_reducible exact rfl | assumption | trivial | (simp only [inR]; omega) | omega | exact ⟨by omega, by omega⟩ | exact ⟨by omega, by omega, by omega⟩ | exact ⟨Int.ediv_nonneg hx0 (Int.le_of_lt (Int.pow_pos (by omega))), by omega⟩ | exact hdv | ((try simp only [decide_eq_true_eq, Bool.and_eq_true, ne_eq, decide_not, Bool.not_eq_true', Bool.not_eq_false', Bool.or_eq_false_iff, Bool.not_not, decide_eq_false_iff_not]); (try intro hh); (repeat' apply And.intro) <;> (first | omega | (simp only [inR]; omega) | assumption | exact ⟨Int.ediv_nonneg hx0 (Int.le_of_lt (Int.pow_pos (by omega))), by omega⟩ | exact hdv | exact hh.1 | exact hh.2 | exact hh.2.1 | exact hh.2.2 | exact hh.1.1 | exact hh.1.2 | (intro hq; exact ⟨hh, hq⟩) | (intro hq; exact ⟨hh.1, hq⟩) | (simp_all; done)))))
      refine hK14 _ ?_
      clear hK14
      refine W_cond (b := _) rfl (fun hc15 => ?_) (fun hc15 => ?_)
      · try simp only [decide_eq_true_eq, decide_eq_false_iff_not, ne_eq, Decidable.not_not, Bool.not_eq_true', Bool.not_eq_false', Bool.or_eq_true, Bool.and_eq_true, Bool.or_eq_false_iff, Bool.and_eq_false_iff] at hc15
        refine W_seq (fun K16 hK16 => ?_)
        refine W_region hT hG [] [8] ?_
        rw [hnt]
        simp only [baseS, eq_self, implies_true, if_true, if_false, reduceIte, Nat.reduceBEq, Nat.reduceEqDiff, Nat.reduceLT, Nat.reduceAdd, reduceCtorEq, tyInt, tdInt, tyInts, tdInts, tyHull, tdHull, c_spec_SlotBelow, decide_false, room, Nat.reduceLeDiff, Nat.zero_le, storeAV, rowQ, ownInts, FT.of, FT.setf, elems, appAV_I, appI, srcI, ownI, anyI, sameR, appAV_P, appP, srcP, ownP, anyP, Int.toNat_natCast, Int.one_mul, maxAV]
        repeat (refine And.intro ?_ ?_; focus (first | exact ordP (by kernel_rfl) | with_reducible exact rfl | assumption | trivial | (simp only [inR]; omega) | omega | exact ⟨by omega, by omega⟩ | exact ⟨by omega, by omega, by omega⟩ | exact ⟨Int.ediv_nonneg hx0 (Int.le_of_lt (Int.pow_pos (by omega))), by omega⟩ | exact hdv | ((try simp only [decide_eq_true_eq, Bool.and_eq_true, ne_eq, decide_not, Bool.not_eq_true', Bool.not_eq_false', Bool.or_eq_false_iff, Bool.not_not, decide_eq_false_iff_not]); (try intro hh); (repeat' apply And.intro) <;> (first | omega | (simp only [inR]; omega) | assumption | exact ⟨Int.ediv_nonneg hx0 (Int.le_of_lt (Int.pow_pos (by omega))), by omega⟩ | exact hdv | exact hh.1 | exact hh.2 | exact hh.2.1 | exact hh.2.2 | exact hh.1.1 | exact hh.1.2 | (intro hq; exact ⟨hh, hq⟩) | (intro hq; exact ⟨hh.1, hq⟩) | (simp_all; done)))))
        refine hK16 _ ?_
        clear hK16
        refine W_ret ?_
        simp only [thenQ, blockQ, loopQ, retQ, reduceIte, Nat.reduceEqDiff]
        refine ret0 ?_ rfl rfl (.inr rfl) rfl
        simp only [show Try.f102.results.toList = [ResultVar.tmp 8] from rfl, resAV, resL, look, Nat.reduceEqDiff, reduceIte, tyHull, tdHull, applyUps, noH, isStr, List.length_cons, List.length_nil, Nat.reduceAdd, and_self]
        all_goals (
          refine congrArg (fun x => some (AV.bool x)) ?_
          first | exact next_bit hc15 | exact nxt_no (by omega) (ok_bad hc15) | exact nxt_yes hc5 hI hc15)
      · try simp only [decide_eq_true_eq, decide_eq_false_iff_not, ne_eq, Decidable.not_not, Bool.not_eq_true', Bool.not_eq_false', Bool.or_eq_true, Bool.and_eq_true, Bool.or_eq_false_iff, Bool.and_eq_false_iff] at hc15
        refine W_skip ?_
        simp only [thenQ, blockQ, loopQ, reduceIte, Nat.reduceEqDiff]
        refine hK13 _ ?_
        clear hK13
        refine W_region hT hG [] [1, 2, 9, 10] ?_
        rw [hnt]
        simp only [baseS, eq_self, implies_true, if_true, if_false, reduceIte, Nat.reduceBEq, Nat.reduceEqDiff, Nat.reduceLT, Nat.reduceAdd, reduceCtorEq, tyInt, tdInt, tyInts, tdInts, tyHull, tdHull, c_spec_SlotBelow, decide_false, room, Nat.reduceLeDiff, Nat.zero_le, storeAV, rowQ, ownInts, FT.of, FT.setf, elems, appAV_I, appI, srcI, ownI, anyI, sameR, appAV_P, appP, srcP, ownP, anyP, Int.toNat_natCast, Int.one_mul, maxAV]
        repeat (refine And.intro ?_ ?_; focus (first | exact ordP (by kernel_rfl) | with_reducible exact rfl | assumption | trivial | (simp only [inR]; omega) | omega | exact ⟨by omega, by omega⟩ | exact ⟨by omega, by omega, by omega⟩ | exact ⟨Int.ediv_nonneg hx0 (Int.le_of_lt (Int.pow_pos (by omega))), by omega⟩ | exact hdv | ((try simp only [decide_eq_true_eq, Bool.and_eq_true, ne_eq, decide_not, Bool.not_eq_true', Bool.not_eq_false', Bool.or_eq_false_iff, Bool.not_not, decide_eq_false_iff_not]); (try intro hh); (repeat' apply And.intro) <;> (first | omega | (simp only [inR]; omega) | assumption | exact ⟨Int.ediv_nonneg hx0 (Int.le_of_lt (Int.pow_pos (by omega))), by omega⟩ | exact hdv | exact hh.1 | exact hh.2 | exact hh.2.1 | exact hh.2.2 | exact hh.1.1 | exact hh.1.2 | (intro hq; exact ⟨hh, hq⟩) | (intro hq; exact ⟨hh.1, hq⟩) | (simp_all; done)))))
        have hgo : okJ b r t s x k.toNat j.toNat = true := ok_good (fun h h2 => by
          first
          | exact hc15 ⟨h, h2⟩
          | (rcases hc15 with h3 | h3
             · exact h3 h
             · exact h3 h2)
          | (simp_all; done))
        refine ⟨j + 1, (by (try simp only [hnt, hnp]); rfl), ⟨⟨by omega, by omega⟩, ok_step hj.1 hI hgo⟩, by dsimp only; omega⟩
    · try simp only [decide_eq_true_eq, decide_eq_false_iff_not, ne_eq, Decidable.not_not, Bool.not_eq_true', Bool.not_eq_false', Bool.or_eq_true, Bool.and_eq_true, Bool.or_eq_false_iff, Bool.and_eq_false_iff] at hc12
      refine W_exit ?_
      simp only [thenQ, blockQ, loopQ, reduceIte, Nat.reduceEqDiff]
      refine hK7 _ ?_
      clear hK7
      refine W_seq (fun K17 hK17 => ?_)
      refine W_region hT hG [] [8] ?_
      rw [hnt]
      simp only [baseS, eq_self, implies_true, if_true, if_false, reduceIte, Nat.reduceBEq, Nat.reduceEqDiff, Nat.reduceLT, Nat.reduceAdd, reduceCtorEq, tyInt, tdInt, tyInts, tdInts, tyHull, tdHull, c_spec_SlotBelow, decide_false, room, Nat.reduceLeDiff, Nat.zero_le, storeAV, rowQ, ownInts, FT.of, FT.setf, elems, appAV_I, appI, srcI, ownI, anyI, sameR, appAV_P, appP, srcP, ownP, anyP, Int.toNat_natCast, Int.one_mul, maxAV]
      repeat (refine And.intro ?_ ?_; focus (first | exact ordP (by kernel_rfl) | with_reducible exact rfl | assumption | trivial | (simp only [inR]; omega) | omega | exact ⟨by omega, by omega⟩ | exact ⟨by omega, by omega, by omega⟩ | exact ⟨Int.ediv_nonneg hx0 (Int.le_of_lt (Int.pow_pos (by omega))), by omega⟩ | exact hdv | ((try simp only [decide_eq_true_eq, Bool.and_eq_true, ne_eq, decide_not, Bool.not_eq_true', Bool.not_eq_false', Bool.or_eq_false_iff, Bool.not_not, decide_eq_false_iff_not]); (try intro hh); (repeat' apply And.intro) <;> (first | omega | (simp only [inR]; omega) | assumption | exact ⟨Int.ediv_nonneg hx0 (Int.le_of_lt (Int.pow_pos (by omega))), by omega⟩ | exact hdv | exact hh.1 | exact hh.2 | exact hh.2.1 | exact hh.2.2 | exact hh.1.1 | exact hh.1.2 | (intro hq; exact ⟨hh, hq⟩) | (intro hq; exact ⟨hh.1, hq⟩) | (simp_all; done)))))
      refine hK17 _ ?_
      clear hK17
      refine W_ret ?_
      simp only [thenQ, blockQ, loopQ, retQ, reduceIte, Nat.reduceEqDiff]
      refine ret0 ?_ rfl rfl (.inr rfl) rfl
      simp only [show Try.f102.results.toList = [ResultVar.tmp 8] from rfl, resAV, resL, look, Nat.reduceEqDiff, reduceIte, tyHull, tdHull, applyUps, noH, isStr, List.length_cons, List.length_nil, Nat.reduceAdd, and_self]
      all_goals (
        refine congrArg (fun x => some (AV.bool x)) ?_
        first | exact next_bit hc12 | exact nxt_no (by omega) (ok_bad hc12) | exact nxt_yes hc5 hI hc12)

def c_spec_l9Least : Ctr where
  modes := [.v .p, .v (.r .i64), .v (.r .i64)]
  al := false
  run := fun xs os => match xs, os with
    | [.agg [.int b, .int r, .int t], .rs .i64 s, .rs .i64 hs], [] => some ⟨s.length ≤ 7 ∧ hs.length = 2 ^ s.length, .sl 0, [.sl 3 .i64 (leastF b r t s hs)], []⟩
    | _, _ => none
theorem m_spec_l9Least : Meets Try.prog 101 c_spec_l9Least := by
  refine meets_of (T := tyT) tyOK Try.func101 (by rfl) rfl (by decide) ?_
  intro args owns R hrun hpre
  simp only [c_spec_l9Least] at hrun
  split at hrun
  case h_2 => cases hrun
  rename_i b r t s hs
  cases hrun
  try dsimp only at hpre
  refine ⟨_, rfl, fun E hP hnt hnp => ?_⟩
  replace hnt : E.nt = 61 := hnt
  replace hnp : E.np = 3 := hnp
  have hT : ∀ t d, tyT t = some d → TyOK E.P t d := hP ▸ tyOK
  have hG : ∀ f C, Γof [(102, c_spec_l9Next)] f = some C → Meets E.P f C := hΓof (by rw [hP]; exact ⟨m_spec_l9Next, trivial⟩)
  try simp only [show Try.f101.ntmps = 61 from rfl]
  have hs7 := hpre.1
  have hhs := hpre.2
  have hpw := two_pow_le hs7
  have hpn := two_pow_nat hs7
  have hhi : (hs.length : Int) = 2 ^ s.length := by rw [hhs]; exact hpn.2.2
  refine W_seq (fun K1 hK1 => ?_)
  refine W_region hT hG [] [1, 2, 3] ?_
  rw [hnt]
  simp only [baseS, eq_self, implies_true, if_true, if_false, reduceIte, Nat.reduceBEq, Nat.reduceEqDiff, Nat.reduceLT, Nat.reduceAdd, reduceCtorEq, tyInt, tdInt, tyInts, tdInts, tyHull, tdHull, c_spec_l9Next, decide_false, room, Nat.reduceLeDiff, Nat.zero_le, storeAV, rowQ, ownInts, FT.of, FT.setf, elems, appAV_I, appI, srcI, ownI, anyI, sameR, appAV_P, appP, srcP, ownP, anyP, Int.toNat_natCast, Int.one_mul, maxAV, storeAV, rowQ, ownInts]
  repeat (refine And.intro ?_ ?_; focus (first | exact ordP (by kernel_rfl) | with_reducible exact rfl | assumption | trivial | (simp only [inR]; omega) | omega | exact ⟨by omega, by omega⟩ | exact ⟨by omega, by omega, by omega⟩ | exact ⟨⟨by omega, by omega⟩, by omega⟩ | exact ⟨by omega, hq.1, by omega, by omega⟩ | ((try simp only [decide_eq_true_eq, Bool.and_eq_true, ne_eq, decide_not, Bool.not_eq_true', Bool.not_eq_false', Bool.or_eq_false_iff, Bool.not_not, decide_eq_false_iff_not]); (try intro hh); (repeat' apply And.intro) <;> (first | omega | (simp only [inR]; omega) | assumption | exact ⟨⟨by omega, by omega⟩, by omega⟩ | exact ⟨by omega, hq.1, by omega, by omega⟩ | exact hh.1 | exact hh.2 | exact hh.2.1 | exact hh.2.2 | exact hh.1.1 | exact hh.1.2 | (intro hq; exact ⟨hh, hq⟩) | (intro hq; exact ⟨hh.1, hq⟩) | (simp_all; done)))))
  refine hK1 _ ?_
  clear hK1
  refine W_seq (fun K2 hK2 => ?_)
  refine W_region hT hG [] [1, 2, 3, 7] ?_
  rw [hnt]
  simp only [baseS, eq_self, implies_true, if_true, if_false, reduceIte, Nat.reduceBEq, Nat.reduceEqDiff, Nat.reduceLT, Nat.reduceAdd, reduceCtorEq, tyInt, tdInt, tyInts, tdInts, tyHull, tdHull, c_spec_l9Next, decide_false, room, Nat.reduceLeDiff, Nat.zero_le, storeAV, rowQ, ownInts, FT.of, FT.setf, elems, appAV_I, appI, srcI, ownI, anyI, sameR, appAV_P, appP, srcP, ownP, anyP, Int.toNat_natCast, Int.one_mul, maxAV, storeAV, rowQ, ownInts]
  repeat (refine And.intro ?_ ?_; focus (first | exact ordP (by kernel_rfl) | with_reducible exact rfl | assumption | trivial | (simp only [inR]; omega) | omega | exact ⟨by omega, by omega⟩ | exact ⟨by omega, by omega, by omega⟩ | exact ⟨⟨by omega, by omega⟩, by omega⟩ | exact ⟨by omega, hq.1, by omega, by omega⟩ | ((try simp only [decide_eq_true_eq, Bool.and_eq_true, ne_eq, decide_not, Bool.not_eq_true', Bool.not_eq_false', Bool.or_eq_false_iff, Bool.not_not, decide_eq_false_iff_not]); (try intro hh); (repeat' apply And.intro) <;> (first | omega | (simp only [inR]; omega) | assumption | exact ⟨⟨by omega, by omega⟩, by omega⟩ | exact ⟨by omega, hq.1, by omega, by omega⟩ | exact hh.1 | exact hh.2 | exact hh.2.1 | exact hh.2.2 | exact hh.1.1 | exact hh.1.2 | (intro hq; exact ⟨hh, hq⟩) | (intro hq; exact ⟨hh.1, hq⟩) | (simp_all; done)))))
  refine hK2 _ ?_
  clear hK2
  refine W_seq (fun K3 hK3 => ?_)
  refine W_seq (fun K4 hK4 => ?_)
  refine W_region hT hG [] [1, 2, 3, 7, 8] ?_
  rw [hnt]
  simp only [baseS, eq_self, implies_true, if_true, if_false, reduceIte, Nat.reduceBEq, Nat.reduceEqDiff, Nat.reduceLT, Nat.reduceAdd, reduceCtorEq, tyInt, tdInt, tyInts, tdInts, tyHull, tdHull, c_spec_l9Next, decide_false, room, Nat.reduceLeDiff, Nat.zero_le, storeAV, rowQ, ownInts, FT.of, FT.setf, elems, appAV_I, appI, srcI, ownI, anyI, sameR, appAV_P, appP, srcP, ownP, anyP, Int.toNat_natCast, Int.one_mul, maxAV, storeAV, rowQ, ownInts]
  repeat (refine And.intro ?_ ?_; focus (first | exact ordP (by kernel_rfl) | with_reducible exact rfl | assumption | trivial | (simp only [inR]; omega) | omega | exact ⟨by omega, by omega⟩ | exact ⟨by omega, by omega, by omega⟩ | exact ⟨⟨by omega, by omega⟩, by omega⟩ | exact ⟨by omega, hq.1, by omega, by omega⟩ | ((try simp only [decide_eq_true_eq, Bool.and_eq_true, ne_eq, decide_not, Bool.not_eq_true', Bool.not_eq_false', Bool.or_eq_false_iff, Bool.not_not, decide_eq_false_iff_not]); (try intro hh); (repeat' apply And.intro) <;> (first | omega | (simp only [inR]; omega) | assumption | exact ⟨⟨by omega, by omega⟩, by omega⟩ | exact ⟨by omega, hq.1, by omega, by omega⟩ | exact hh.1 | exact hh.2 | exact hh.2.1 | exact hh.2.2 | exact hh.1.1 | exact hh.1.2 | (intro hq; exact ⟨hh, hq⟩) | (intro hq; exact ⟨hh.1, hq⟩) | (simp_all; done)))))
  refine hK4 _ ?_
  clear hK4
  refine W_block ?_
  refine W_loop (α := Int × List Int) [(1, .as), (2, .as), (3, .as), (7, .own 3 .i64), (8, .as)] (fun x => ⟨[(1, .rs .i64 s), (2, .rs .i64 hs), (3, .rp [.int b, .int r, .int t]), (7, .sl 7), (8, .int x.1)], [(7, some (.sl 3 .i64 x.2))], 61⟩) (fun x => (-1 ≤ x.1 ∧ x.1 ≤ (hs.length : Int) - 2) ∧ x.2 = lstF b r t s hs ((hs.length : Int) - 2 - x.1).toNat) (fun x => (x.1 + 1).toNat) ((hs.length : Int) - 2, List.replicate hs.length 0) ?_ ?_ ?_
  · (try simp only [hnt, hnp]); rfl
  · exact ⟨⟨by dsimp only; omega, by dsimp only; omega⟩, by dsimp only; rw [show ((hs.length : Int) - 2 - ((hs.length : Int) - 2)).toNat = 0 by omega]; rfl⟩
  rintro ⟨q, l⟩ ⟨hq, hL⟩
  dsimp only at hq hL ⊢
  have hll : l.length = hs.length := by rw [hL]; exact lstF_len b r t s hs _
  refine W_seq (fun K6 hK6 => ?_)
  refine W_seq (fun K7 hK7 => ?_)
  refine W_region hT hG [] [1, 2, 3, 7, 8, 19] ?_
  rw [hnt]
  simp only [baseS, eq_self, implies_true, if_true, if_false, reduceIte, Nat.reduceBEq, Nat.reduceEqDiff, Nat.reduceLT, Nat.reduceAdd, reduceCtorEq, tyInt, tdInt, tyInts, tdInts, tyHull, tdHull, c_spec_l9Next, decide_false, room, Nat.reduceLeDiff, Nat.zero_le, storeAV, rowQ, ownInts, FT.of, FT.setf, elems, appAV_I, appI, srcI, ownI, anyI, sameR, appAV_P, appP, srcP, ownP, anyP, Int.toNat_natCast, Int.one_mul, maxAV, storeAV, rowQ, ownInts]
  repeat (refine And.intro ?_ ?_; focus (first | exact ordP (by kernel_rfl) | with_reducible exact rfl | assumption | trivial | (simp only [inR]; omega) | omega | exact ⟨by omega, by omega⟩ | exact ⟨by omega, by omega, by omega⟩ | exact ⟨⟨by omega, by omega⟩, by omega⟩ | exact ⟨by omega, hq.1, by omega, by omega⟩ | ((try simp only [decide_eq_true_eq, Bool.and_eq_true, ne_eq, decide_not, Bool.not_eq_true', Bool.not_eq_false', Bool.or_eq_false_iff, Bool.not_not, decide_eq_false_iff_not]); (try intro hh); (repeat' apply And.intro) <;> (first | omega | (simp only [inR]; omega) | assumption | exact ⟨⟨by omega, by omega⟩, by omega⟩ | exact ⟨by omega, hq.1, by omega, by omega⟩ | exact hh.1 | exact hh.2 | exact hh.2.1 | exact hh.2.2 | exact hh.1.1 | exact hh.1.2 | (intro hq; exact ⟨hh, hq⟩) | (intro hq; exact ⟨hh.1, hq⟩) | (simp_all; done)))))
  refine hK7 _ ?_
  clear hK7
  refine W_cond (b := _) rfl (fun hc8 => ?_) (fun hc8 => ?_)
  · try simp only [decide_eq_true_eq, decide_eq_false_iff_not, ne_eq, Decidable.not_not, Bool.not_eq_true', Bool.not_eq_false', Bool.or_eq_true, Bool.and_eq_true, Bool.or_eq_false_iff, Bool.and_eq_false_iff] at hc8
    refine W_skip ?_
    simp only [thenQ, blockQ, loopQ, reduceIte, Nat.reduceEqDiff]
    refine hK6 _ ?_
    clear hK6
    refine W_seq (fun K9 hK9 => ?_)
    refine W_block ?_
    refine W_seq (fun K10 hK10 => ?_)
    refine W_region hT hG [] [1, 2, 3, 7, 8, 9] ?_
    rw [hnt]
    simp only [baseS, eq_self, implies_true, if_true, if_false, reduceIte, Nat.reduceBEq, Nat.reduceEqDiff, Nat.reduceLT, Nat.reduceAdd, reduceCtorEq, tyInt, tdInt, tyInts, tdInts, tyHull, tdHull, c_spec_l9Next, decide_false, room, Nat.reduceLeDiff, Nat.zero_le, storeAV, rowQ, ownInts, FT.of, FT.setf, elems, appAV_I, appI, srcI, ownI, anyI, sameR, appAV_P, appP, srcP, ownP, anyP, Int.toNat_natCast, Int.one_mul, maxAV, storeAV, rowQ, ownInts]
    repeat (refine And.intro ?_ ?_; focus (first | exact ordP (by kernel_rfl) | with_reducible exact rfl | assumption | trivial | (simp only [inR]; omega) | omega | exact ⟨by omega, by omega⟩ | exact ⟨by omega, by omega, by omega⟩ | exact ⟨⟨by omega, by omega⟩, by omega⟩ | exact ⟨by omega, hq.1, by omega, by omega⟩ | ((try simp only [decide_eq_true_eq, Bool.and_eq_true, ne_eq, decide_not, Bool.not_eq_true', Bool.not_eq_false', Bool.or_eq_false_iff, Bool.not_not, decide_eq_false_iff_not]); (try intro hh); (repeat' apply And.intro) <;> (first | omega | (simp only [inR]; omega) | assumption | exact ⟨⟨by omega, by omega⟩, by omega⟩ | exact ⟨by omega, hq.1, by omega, by omega⟩ | exact hh.1 | exact hh.2 | exact hh.2.1 | exact hh.2.2 | exact hh.1.1 | exact hh.1.2 | (intro hq; exact ⟨hh, hq⟩) | (intro hq; exact ⟨hh.1, hq⟩) | (simp_all; done)))))
    refine hK10 _ ?_
    clear hK10
    refine W_seq (fun K11 hK11 => ?_)
    refine W_seq (fun K12 hK12 => ?_)
    refine W_region hT hG [] [1, 2, 3, 7, 8, 9, 10] ?_
    rw [hnt]
    simp only [baseS, eq_self, implies_true, if_true, if_false, reduceIte, Nat.reduceBEq, Nat.reduceEqDiff, Nat.reduceLT, Nat.reduceAdd, reduceCtorEq, tyInt, tdInt, tyInts, tdInts, tyHull, tdHull, c_spec_l9Next, decide_false, room, Nat.reduceLeDiff, Nat.zero_le, storeAV, rowQ, ownInts, FT.of, FT.setf, elems, appAV_I, appI, srcI, ownI, anyI, sameR, appAV_P, appP, srcP, ownP, anyP, Int.toNat_natCast, Int.one_mul, maxAV, storeAV, rowQ, ownInts]
    repeat (refine And.intro ?_ ?_; focus (first | exact ordP (by kernel_rfl) | with_reducible exact rfl | assumption | trivial | (simp only [inR]; omega) | omega | exact ⟨by omega, by omega⟩ | exact ⟨by omega, by omega, by omega⟩ | exact ⟨⟨by omega, by omega⟩, by omega⟩ | exact ⟨by omega, hq.1, by omega, by omega⟩ | ((try simp only [decide_eq_true_eq, Bool.and_eq_true, ne_eq, decide_not, Bool.not_eq_true', Bool.not_eq_false', Bool.or_eq_false_iff, Bool.not_not, decide_eq_false_iff_not]); (try intro hh); (repeat' apply And.intro) <;> (first | omega | (simp only [inR]; omega) | assumption | exact ⟨⟨by omega, by omega⟩, by omega⟩ | exact ⟨by omega, hq.1, by omega, by omega⟩ | exact hh.1 | exact hh.2 | exact hh.2.1 | exact hh.2.2 | exact hh.1.1 | exact hh.1.2 | (intro hq; exact ⟨hh, hq⟩) | (intro hq; exact ⟨hh.1, hq⟩) | (simp_all; done)))))
    refine hK12 _ ?_
    clear hK12
    refine W_block ?_
    refine W_loop (α := Int × Int) [(1, .as), (2, .as), (3, .as), (7, .own 3 .i64), (8, .as), (9, .as), (10, .as)] (fun y => ⟨[(1, .rs .i64 s), (2, .rs .i64 hs), (3, .rp [.int b, .int r, .int t]), (7, .sl 7), (8, .int q), (9, .int y.1), (10, .int y.2)], [(7, some (.sl 3 .i64 l))], 61⟩) (fun y => (0 ≤ y.2 ∧ y.2 ≤ s.length) ∧ y.1 = bestK b r t s hs l q y.2.toNat) (fun y => (s.length - y.2).toNat) (-1, 0) ?_ ?_ ?_
    · (try simp only [hnt, hnp]); rfl
    · exact ⟨⟨by omega, by dsimp only; omega⟩, rfl⟩
    rintro ⟨bst, k⟩ ⟨hk, hB⟩
    dsimp only at hk hB ⊢
    have hidx := fun (h1 : k < (s.length : Int)) h => @next_idx b r t s hs7 q k hk.1 h1 (by omega) (by omega) h
    have hpk := fun (h1 : k < (s.length : Int)) => two_pow_le (n := k.toNat) (by omega)
    refine W_seq (fun K14 hK14 => ?_)
    refine W_seq (fun K15 hK15 => ?_)
    refine W_region hT hG [] [1, 2, 3, 7, 8, 9, 10, 25] ?_
    rw [hnt]
    simp only [baseS, eq_self, implies_true, if_true, if_false, reduceIte, Nat.reduceBEq, Nat.reduceEqDiff, Nat.reduceLT, Nat.reduceAdd, reduceCtorEq, tyInt, tdInt, tyInts, tdInts, tyHull, tdHull, c_spec_l9Next, decide_false, room, Nat.reduceLeDiff, Nat.zero_le, storeAV, rowQ, ownInts, FT.of, FT.setf, elems, appAV_I, appI, srcI, ownI, anyI, sameR, appAV_P, appP, srcP, ownP, anyP, Int.toNat_natCast, Int.one_mul, maxAV, storeAV, rowQ, ownInts]
    repeat (refine And.intro ?_ ?_; focus (first | exact ordP (by kernel_rfl) | with_reducible exact rfl | assumption | trivial | (simp only [inR]; omega) | omega | exact ⟨by omega, by omega⟩ | exact ⟨by omega, by omega, by omega⟩ | exact ⟨⟨by omega, by omega⟩, by omega⟩ | exact ⟨by omega, hq.1, by omega, by omega⟩ | ((try simp only [decide_eq_true_eq, Bool.and_eq_true, ne_eq, decide_not, Bool.not_eq_true', Bool.not_eq_false', Bool.or_eq_false_iff, Bool.not_not, decide_eq_false_iff_not]); (try intro hh); (repeat' apply And.intro) <;> (first | omega | (simp only [inR]; omega) | assumption | exact ⟨⟨by omega, by omega⟩, by omega⟩ | exact ⟨by omega, hq.1, by omega, by omega⟩ | exact hh.1 | exact hh.2 | exact hh.2.1 | exact hh.2.2 | exact hh.1.1 | exact hh.1.2 | (intro hq; exact ⟨hh, hq⟩) | (intro hq; exact ⟨hh.1, hq⟩) | (simp_all; done)))))
    refine hK15 _ ?_
    clear hK15
    refine W_cond (b := _) rfl (fun hc16 => ?_) (fun hc16 => ?_)
    · try simp only [decide_eq_true_eq, decide_eq_false_iff_not, ne_eq, Decidable.not_not, Bool.not_eq_true', Bool.not_eq_false', Bool.or_eq_true, Bool.and_eq_true, Bool.or_eq_false_iff, Bool.and_eq_false_iff] at hc16
      refine W_skip ?_
      simp only [thenQ, blockQ, loopQ, reduceIte, Nat.reduceEqDiff]
      refine hK14 _ ?_
      clear hK14
      refine W_seq (fun K17 hK17 => ?_)
      refine W_block ?_
      refine W_seq (fun K18 hK18 => ?_)
      refine W_region hT hG [] [1, 2, 3, 7, 8, 9, 10, 32] ?_
      rw [hnt]
      simp only [baseS, eq_self, implies_true, if_true, if_false, reduceIte, Nat.reduceBEq, Nat.reduceEqDiff, Nat.reduceLT, Nat.reduceAdd, reduceCtorEq, tyInt, tdInt, tyInts, tdInts, tyHull, tdHull, c_spec_l9Next, decide_false, room, Nat.reduceLeDiff, Nat.zero_le, storeAV, rowQ, ownInts, FT.of, FT.setf, elems, appAV_I, appI, srcI, ownI, anyI, sameR, appAV_P, appP, srcP, ownP, anyP, Int.toNat_natCast, Int.one_mul, maxAV, storeAV, rowQ, ownInts]
      repeat (refine And.intro ?_ ?_; focus (first | exact ordP (by kernel_rfl) | with_reducible exact rfl | assumption | trivial | (simp only [inR]; omega) | omega | exact ⟨by omega, by omega⟩ | exact ⟨by omega, by omega, by omega⟩ | exact ⟨⟨by omega, by omega⟩, by omega⟩ | exact ⟨by omega, hq.1, by omega, by omega⟩ | ((try simp only [decide_eq_true_eq, Bool.and_eq_true, ne_eq, decide_not, Bool.not_eq_true', Bool.not_eq_false', Bool.or_eq_false_iff, Bool.not_not, decide_eq_false_iff_not]); (try intro hh); (repeat' apply And.intro) <;> (first | omega | (simp only [inR]; omega) | assumption | exact ⟨⟨by omega, by omega⟩, by omega⟩ | exact ⟨by omega, hq.1, by omega, by omega⟩ | exact hh.1 | exact hh.2 | exact hh.2.1 | exact hh.2.2 | exact hh.1.1 | exact hh.1.2 | (intro hq; exact ⟨hh, hq⟩) | (intro hq; exact ⟨hh.1, hq⟩) | (simp_all; done)))))
      refine hK18 _ ?_
      clear hK18
      refine W_cond (b := _) rfl (fun hc19 => ?_) (fun hc19 => ?_)
      · try simp only [decide_eq_true_eq, decide_eq_false_iff_not, ne_eq, Decidable.not_not, Bool.not_eq_true', Bool.not_eq_false', Bool.or_eq_true, Bool.and_eq_true, Bool.or_eq_false_iff, Bool.and_eq_false_iff] at hc19
        refine W_seq (fun K20 hK20 => ?_)
        refine W_region_draw hT hG (by rw [hP]; exact draws_ok) [] [1, 2, 3, 7, 8, 9, 10, 11] ?_
        rw [hnt]
        have hid := hidx hc16 hc19
        have hpk1 := hpk hc16
        simp only [baseS, eq_self, implies_true, if_true, if_false, reduceIte, Nat.reduceBEq, Nat.reduceEqDiff, Nat.reduceLT, Nat.reduceAdd, reduceCtorEq, tyInt, tdInt, tyInts, tdInts, tyHull, tdHull, c_spec_l9Next, decide_false, room, Nat.reduceLeDiff, Nat.zero_le, storeAV, rowQ, ownInts, FT.of, FT.setf, elems, appAV_I, appI, srcI, ownI, anyI, sameR, appAV_P, appP, srcP, ownP, anyP, Int.toNat_natCast, Int.one_mul, maxAV, storeAV, rowQ, ownInts]
        repeat (refine And.intro ?_ ?_; focus (first | exact ordP (by kernel_rfl) | with_reducible exact rfl | assumption | trivial | (simp only [inR]; omega) | omega | exact ⟨by omega, by omega⟩ | exact ⟨by omega, by omega, by omega⟩ | exact ⟨⟨by omega, by omega⟩, by omega⟩ | exact ⟨by omega, hq.1, by omega, by omega⟩ | ((try simp only [decide_eq_true_eq, Bool.and_eq_true, ne_eq, decide_not, Bool.not_eq_true', Bool.not_eq_false', Bool.or_eq_false_iff, Bool.not_not, decide_eq_false_iff_not]); (try intro hh); (repeat' apply And.intro) <;> (first | omega | (simp only [inR]; omega) | assumption | exact ⟨⟨by omega, by omega⟩, by omega⟩ | exact ⟨by omega, hq.1, by omega, by omega⟩ | exact hh.1 | exact hh.2 | exact hh.2.1 | exact hh.2.2 | exact hh.1.1 | exact hh.1.2 | (intro hq; exact ⟨hh, hq⟩) | (intro hq; exact ⟨hh.1, hq⟩) | (simp_all; done)))))
        refine hK20 _ ?_
        clear hK20
        refine W_seq (fun K21 hK21 => ?_)
        refine W_region hT hG [] [1, 2, 3, 7, 8, 9, 10, 11, 54] ?_
        rw [hnt]
        simp only [baseS, eq_self, implies_true, if_true, if_false, reduceIte, Nat.reduceBEq, Nat.reduceEqDiff, Nat.reduceLT, Nat.reduceAdd, reduceCtorEq, tyInt, tdInt, tyInts, tdInts, tyHull, tdHull, c_spec_l9Next, decide_false, room, Nat.reduceLeDiff, Nat.zero_le, storeAV, rowQ, ownInts, FT.of, FT.setf, elems, appAV_I, appI, srcI, ownI, anyI, sameR, appAV_P, appP, srcP, ownP, anyP, Int.toNat_natCast, Int.one_mul, maxAV, storeAV, rowQ, ownInts]
        repeat (refine And.intro ?_ ?_; focus (first | exact ordP (by kernel_rfl) | with_reducible exact rfl | assumption | trivial | (simp only [inR]; omega) | omega | exact ⟨by omega, by omega⟩ | exact ⟨by omega, by omega, by omega⟩ | exact ⟨⟨by omega, by omega⟩, by omega⟩ | exact ⟨by omega, hq.1, by omega, by omega⟩ | ((try simp only [decide_eq_true_eq, Bool.and_eq_true, ne_eq, decide_not, Bool.not_eq_true', Bool.not_eq_false', Bool.or_eq_false_iff, Bool.not_not, decide_eq_false_iff_not]); (try intro hh); (repeat' apply And.intro) <;> (first | omega | (simp only [inR]; omega) | assumption | exact ⟨⟨by omega, by omega⟩, by omega⟩ | exact ⟨by omega, hq.1, by omega, by omega⟩ | exact hh.1 | exact hh.2 | exact hh.2.1 | exact hh.2.2 | exact hh.1.1 | exact hh.1.2 | (intro hq; exact ⟨hh, hq⟩) | (intro hq; exact ⟨hh.1, hq⟩) | (simp_all; done)))))
        refine hK21 _ ?_
        clear hK21
        refine W_cond (b := _) rfl (fun hc22 => ?_) (fun hc22 => ?_)
        · try simp only [decide_eq_true_eq, decide_eq_false_iff_not, ne_eq, Decidable.not_not, Bool.not_eq_true', Bool.not_eq_false', Bool.or_eq_true, Bool.and_eq_true, Bool.or_eq_false_iff, Bool.and_eq_false_iff] at hc22
          refine W_region hT hG [] [1, 2, 3, 7, 8, 9, 10] ?_
          rw [hnt]
          simp only [baseS, eq_self, implies_true, if_true, if_false, reduceIte, Nat.reduceBEq, Nat.reduceEqDiff, Nat.reduceLT, Nat.reduceAdd, reduceCtorEq, tyInt, tdInt, tyInts, tdInts, tyHull, tdHull, c_spec_l9Next, decide_false, room, Nat.reduceLeDiff, Nat.zero_le, storeAV, rowQ, ownInts, FT.of, FT.setf, elems, appAV_I, appI, srcI, ownI, anyI, sameR, appAV_P, appP, srcP, ownP, anyP, Int.toNat_natCast, Int.one_mul, maxAV, storeAV, rowQ, ownInts]
          repeat (refine And.intro ?_ ?_; focus (first | exact ordP (by kernel_rfl) | with_reducible exact rfl | assumption | trivial | (simp only [inR]; omega) | omega | exact ⟨by omega, by omega⟩ | exact ⟨by omega, by omega, by omega⟩ | exact ⟨⟨by omega, by omega⟩, by omega⟩ | exact ⟨by omega, hq.1, by omega, by omega⟩ | ((try simp only [decide_eq_true_eq, Bool.and_eq_true, ne_eq, decide_not, Bool.not_eq_true', Bool.not_eq_false', Bool.or_eq_false_iff, Bool.not_not, decide_eq_false_iff_not]); (try intro hh); (repeat' apply And.intro) <;> (first | omega | (simp only [inR]; omega) | assumption | exact ⟨⟨by omega, by omega⟩, by omega⟩ | exact ⟨by omega, hq.1, by omega, by omega⟩ | exact hh.1 | exact hh.2 | exact hh.2.1 | exact hh.2.2 | exact hh.1.1 | exact hh.1.2 | (intro hq; exact ⟨hh, hq⟩) | (intro hq; exact ⟨hh.1, hq⟩) | (simp_all; done)))))
          refine hK17 _ ?_
          clear hK17
          refine W_region hT hG [] [1, 2, 3, 7, 8, 9, 10] ?_
          rw [hnt]
          simp only [baseS, eq_self, implies_true, if_true, if_false, reduceIte, Nat.reduceBEq, Nat.reduceEqDiff, Nat.reduceLT, Nat.reduceAdd, reduceCtorEq, tyInt, tdInt, tyInts, tdInts, tyHull, tdHull, c_spec_l9Next, decide_false, room, Nat.reduceLeDiff, Nat.zero_le, storeAV, rowQ, ownInts, FT.of, FT.setf, elems, appAV_I, appI, srcI, ownI, anyI, sameR, appAV_P, appP, srcP, ownP, anyP, Int.toNat_natCast, Int.one_mul, maxAV, storeAV, rowQ, ownInts]
          repeat (refine And.intro ?_ ?_; focus (first | exact ordP (by kernel_rfl) | with_reducible exact rfl | assumption | trivial | (simp only [inR]; omega) | omega | exact ⟨by omega, by omega⟩ | exact ⟨by omega, by omega, by omega⟩ | exact ⟨⟨by omega, by omega⟩, by omega⟩ | exact ⟨by omega, hq.1, by omega, by omega⟩ | ((try simp only [decide_eq_true_eq, Bool.and_eq_true, ne_eq, decide_not, Bool.not_eq_true', Bool.not_eq_false', Bool.or_eq_false_iff, Bool.not_not, decide_eq_false_iff_not]); (try intro hh); (repeat' apply And.intro) <;> (first | omega | (simp only [inR]; omega) | assumption | exact ⟨⟨by omega, by omega⟩, by omega⟩ | exact ⟨by omega, hq.1, by omega, by omega⟩ | exact hh.1 | exact hh.2 | exact hh.2.1 | exact hh.2.2 | exact hh.1.1 | exact hh.1.2 | (intro hq; exact ⟨hh, hq⟩) | (intro hq; exact ⟨hh.1, hq⟩) | (simp_all; done)))))
          first
          | (have hst := @bestK_yes b r t s hs l q k hk.1 hc19 (by rw [← hB]; exact hc22)
             refine ⟨(max (hs.getD (q + 2 ^ k.toNat).toNat 0) (l.getD (q + 2 ^ k.toNat).toNat 0), k + 1), (by (try simp only [hnt, hnp]); rfl), ⟨by dsimp only; omega, by dsimp only; rw [hst]⟩, by dsimp only; omega⟩)
          | (have hst := @bestK_no b r t s hs l q k hk.1 (.inr (by rw [← hB]; exact ⟨by omega, by omega⟩))
             refine ⟨(bst, k + 1), (by (try simp only [hnt, hnp]); rfl), ⟨by dsimp only; omega, by dsimp only; rw [hst, hB]⟩, by dsimp only; omega⟩)
          | (have hst := @bestK_no b r t s hs l q k hk.1 (.inl hc22)
             refine ⟨(bst, k + 1), (by (try simp only [hnt, hnp]); rfl), ⟨by dsimp only; omega, by dsimp only; rw [hst, hB]⟩, by dsimp only; omega⟩)
        · try simp only [decide_eq_true_eq, decide_eq_false_iff_not, ne_eq, Decidable.not_not, Bool.not_eq_true', Bool.not_eq_false', Bool.or_eq_true, Bool.and_eq_true, Bool.or_eq_false_iff, Bool.and_eq_false_iff] at hc22
          refine W_skip ?_
          simp only [thenQ, blockQ, loopQ, reduceIte, Nat.reduceEqDiff]
          refine hK17 _ ?_
          clear hK17
          refine W_region hT hG [] [1, 2, 3, 7, 8, 9, 10] ?_
          rw [hnt]
          simp only [baseS, eq_self, implies_true, if_true, if_false, reduceIte, Nat.reduceBEq, Nat.reduceEqDiff, Nat.reduceLT, Nat.reduceAdd, reduceCtorEq, tyInt, tdInt, tyInts, tdInts, tyHull, tdHull, c_spec_l9Next, decide_false, room, Nat.reduceLeDiff, Nat.zero_le, storeAV, rowQ, ownInts, FT.of, FT.setf, elems, appAV_I, appI, srcI, ownI, anyI, sameR, appAV_P, appP, srcP, ownP, anyP, Int.toNat_natCast, Int.one_mul, maxAV, storeAV, rowQ, ownInts]
          repeat (refine And.intro ?_ ?_; focus (first | exact ordP (by kernel_rfl) | with_reducible exact rfl | assumption | trivial | (simp only [inR]; omega) | omega | exact ⟨by omega, by omega⟩ | exact ⟨by omega, by omega, by omega⟩ | exact ⟨⟨by omega, by omega⟩, by omega⟩ | exact ⟨by omega, hq.1, by omega, by omega⟩ | ((try simp only [decide_eq_true_eq, Bool.and_eq_true, ne_eq, decide_not, Bool.not_eq_true', Bool.not_eq_false', Bool.or_eq_false_iff, Bool.not_not, decide_eq_false_iff_not]); (try intro hh); (repeat' apply And.intro) <;> (first | omega | (simp only [inR]; omega) | assumption | exact ⟨⟨by omega, by omega⟩, by omega⟩ | exact ⟨by omega, hq.1, by omega, by omega⟩ | exact hh.1 | exact hh.2 | exact hh.2.1 | exact hh.2.2 | exact hh.1.1 | exact hh.1.2 | (intro hq; exact ⟨hh, hq⟩) | (intro hq; exact ⟨hh.1, hq⟩) | (simp_all; done)))))
          first
          | (have hst := @bestK_yes b r t s hs l q k hk.1 hc19 (by rw [← hB]; exact hc22)
             refine ⟨(max (hs.getD (q + 2 ^ k.toNat).toNat 0) (l.getD (q + 2 ^ k.toNat).toNat 0), k + 1), (by (try simp only [hnt, hnp]); rfl), ⟨by dsimp only; omega, by dsimp only; rw [hst]⟩, by dsimp only; omega⟩)
          | (have hst := @bestK_no b r t s hs l q k hk.1 (.inr (by rw [← hB]; exact ⟨by omega, by omega⟩))
             refine ⟨(bst, k + 1), (by (try simp only [hnt, hnp]); rfl), ⟨by dsimp only; omega, by dsimp only; rw [hst, hB]⟩, by dsimp only; omega⟩)
          | (have hst := @bestK_no b r t s hs l q k hk.1 (.inl hc22)
             refine ⟨(bst, k + 1), (by (try simp only [hnt, hnp]); rfl), ⟨by dsimp only; omega, by dsimp only; rw [hst, hB]⟩, by dsimp only; omega⟩)
      · try simp only [decide_eq_true_eq, decide_eq_false_iff_not, ne_eq, Decidable.not_not, Bool.not_eq_true', Bool.not_eq_false', Bool.or_eq_true, Bool.and_eq_true, Bool.or_eq_false_iff, Bool.and_eq_false_iff] at hc19
        refine W_skip ?_
        simp only [thenQ, blockQ, loopQ, reduceIte, Nat.reduceEqDiff]
        refine hK17 _ ?_
        clear hK17
        refine W_region hT hG [] [1, 2, 3, 7, 8, 9, 10] ?_
        rw [hnt]
        simp only [baseS, eq_self, implies_true, if_true, if_false, reduceIte, Nat.reduceBEq, Nat.reduceEqDiff, Nat.reduceLT, Nat.reduceAdd, reduceCtorEq, tyInt, tdInt, tyInts, tdInts, tyHull, tdHull, c_spec_l9Next, decide_false, room, Nat.reduceLeDiff, Nat.zero_le, storeAV, rowQ, ownInts, FT.of, FT.setf, elems, appAV_I, appI, srcI, ownI, anyI, sameR, appAV_P, appP, srcP, ownP, anyP, Int.toNat_natCast, Int.one_mul, maxAV, storeAV, rowQ, ownInts]
        repeat (refine And.intro ?_ ?_; focus (first | exact ordP (by kernel_rfl) | with_reducible exact rfl | assumption | trivial | (simp only [inR]; omega) | omega | exact ⟨by omega, by omega⟩ | exact ⟨by omega, by omega, by omega⟩ | exact ⟨⟨by omega, by omega⟩, by omega⟩ | exact ⟨by omega, hq.1, by omega, by omega⟩ | ((try simp only [decide_eq_true_eq, Bool.and_eq_true, ne_eq, decide_not, Bool.not_eq_true', Bool.not_eq_false', Bool.or_eq_false_iff, Bool.not_not, decide_eq_false_iff_not]); (try intro hh); (repeat' apply And.intro) <;> (first | omega | (simp only [inR]; omega) | assumption | exact ⟨⟨by omega, by omega⟩, by omega⟩ | exact ⟨by omega, hq.1, by omega, by omega⟩ | exact hh.1 | exact hh.2 | exact hh.2.1 | exact hh.2.2 | exact hh.1.1 | exact hh.1.2 | (intro hq; exact ⟨hh, hq⟩) | (intro hq; exact ⟨hh.1, hq⟩) | (simp_all; done)))))
        first
        | (have hst := @bestK_yes b r t s hs l q k hk.1 hc16 (by rw [← hB]; exact hc19)
           refine ⟨(max (hs.getD (q + 2 ^ k.toNat).toNat 0) (l.getD (q + 2 ^ k.toNat).toNat 0), k + 1), (by (try simp only [hnt, hnp]); rfl), ⟨by dsimp only; omega, by dsimp only; rw [hst]⟩, by dsimp only; omega⟩)
        | (have hst := @bestK_no b r t s hs l q k hk.1 (.inr (by rw [← hB]; exact ⟨by omega, by omega⟩))
           refine ⟨(bst, k + 1), (by (try simp only [hnt, hnp]); rfl), ⟨by dsimp only; omega, by dsimp only; rw [hst, hB]⟩, by dsimp only; omega⟩)
        | (have hst := @bestK_no b r t s hs l q k hk.1 (.inl hc19)
           refine ⟨(bst, k + 1), (by (try simp only [hnt, hnp]); rfl), ⟨by dsimp only; omega, by dsimp only; rw [hst, hB]⟩, by dsimp only; omega⟩)
    · try simp only [decide_eq_true_eq, decide_eq_false_iff_not, ne_eq, Decidable.not_not, Bool.not_eq_true', Bool.not_eq_false', Bool.or_eq_true, Bool.and_eq_true, Bool.or_eq_false_iff, Bool.and_eq_false_iff] at hc16
      refine W_exit ?_
      simp only [thenQ, blockQ, loopQ, reduceIte, Nat.reduceEqDiff]
      refine hK11 _ ?_
      clear hK11
      refine W_region hT hG [] [1, 2, 3, 7, 8] ?_
      rw [hnt]
      simp only [baseS, eq_self, implies_true, if_true, if_false, reduceIte, Nat.reduceBEq, Nat.reduceEqDiff, Nat.reduceLT, Nat.reduceAdd, reduceCtorEq, tyInt, tdInt, tyInts, tdInts, tyHull, tdHull, c_spec_l9Next, decide_false, room, Nat.reduceLeDiff, Nat.zero_le, storeAV, rowQ, ownInts, FT.of, FT.setf, elems, appAV_I, appI, srcI, ownI, anyI, sameR, appAV_P, appP, srcP, ownP, anyP, Int.toNat_natCast, Int.one_mul, maxAV, storeAV, rowQ, ownInts]
      repeat (refine And.intro ?_ ?_; focus (first | exact ordP (by kernel_rfl) | with_reducible exact rfl | assumption | trivial | (simp only [inR]; omega) | omega | exact ⟨by omega, by omega⟩ | exact ⟨by omega, by omega, by omega⟩ | exact ⟨⟨by omega, by omega⟩, by omega⟩ | exact ⟨by omega, hq.1, by omega, by omega⟩ | ((try simp only [decide_eq_true_eq, Bool.and_eq_true, ne_eq, decide_not, Bool.not_eq_true', Bool.not_eq_false', Bool.or_eq_false_iff, Bool.not_not, decide_eq_false_iff_not]); (try intro hh); (repeat' apply And.intro) <;> (first | omega | (simp only [inR]; omega) | assumption | exact ⟨⟨by omega, by omega⟩, by omega⟩ | exact ⟨by omega, hq.1, by omega, by omega⟩ | exact hh.1 | exact hh.2 | exact hh.2.1 | exact hh.2.2 | exact hh.1.1 | exact hh.1.2 | (intro hq; exact ⟨hh, hq⟩) | (intro hq; exact ⟨hh.1, hq⟩) | (simp_all; done)))))
      refine hK9 _ ?_
      clear hK9
      refine W_region hT hG [] [1, 2, 3, 7, 8] ?_
      rw [hnt]
      simp only [baseS, eq_self, implies_true, if_true, if_false, reduceIte, Nat.reduceBEq, Nat.reduceEqDiff, Nat.reduceLT, Nat.reduceAdd, reduceCtorEq, tyInt, tdInt, tyInts, tdInts, tyHull, tdHull, c_spec_l9Next, decide_false, room, Nat.reduceLeDiff, Nat.zero_le, storeAV, rowQ, ownInts, FT.of, FT.setf, elems, appAV_I, appI, srcI, ownI, anyI, sameR, appAV_P, appP, srcP, ownP, anyP, Int.toNat_natCast, Int.one_mul, maxAV, storeAV, rowQ, ownInts]
      repeat (refine And.intro ?_ ?_; focus (first | exact ordP (by kernel_rfl) | with_reducible exact rfl | assumption | trivial | (simp only [inR]; omega) | omega | exact ⟨by omega, by omega⟩ | exact ⟨by omega, by omega, by omega⟩ | exact ⟨⟨by omega, by omega⟩, by omega⟩ | exact ⟨by omega, hq.1, by omega, by omega⟩ | ((try simp only [decide_eq_true_eq, Bool.and_eq_true, ne_eq, decide_not, Bool.not_eq_true', Bool.not_eq_false', Bool.or_eq_false_iff, Bool.not_not, decide_eq_false_iff_not]); (try intro hh); (repeat' apply And.intro) <;> (first | omega | (simp only [inR]; omega) | assumption | exact ⟨⟨by omega, by omega⟩, by omega⟩ | exact ⟨by omega, hq.1, by omega, by omega⟩ | exact hh.1 | exact hh.2 | exact hh.2.1 | exact hh.2.2 | exact hh.1.1 | exact hh.1.2 | (intro hq; exact ⟨hh, hq⟩) | (intro hq; exact ⟨hh.1, hq⟩) | (simp_all; done)))))
      have hfin := @lstF_step b r t s hs q (by omega) hq.2
      have ek : k.toNat = s.length := by omega
      rw [ek] at hB
      refine ⟨(q - 1, l.set q.toNat bst), (by (try simp only [hnt, hnp]); rfl), ⟨⟨by dsimp only; omega, by dsimp only; omega⟩, by dsimp only; rw [hfin, ← hL, ← hB]⟩, by dsimp only; omega⟩
  · try simp only [decide_eq_true_eq, decide_eq_false_iff_not, ne_eq, Decidable.not_not, Bool.not_eq_true', Bool.not_eq_false', Bool.or_eq_true, Bool.and_eq_true, Bool.or_eq_false_iff, Bool.and_eq_false_iff] at hc8
    refine W_exit ?_
    simp only [thenQ, blockQ, loopQ, reduceIte, Nat.reduceEqDiff]
    refine hK3 _ ?_
    clear hK3
    refine W_seq (fun K23 hK23 => ?_)
    refine W_region hT hG [] [6] ?_
    rw [hnt]
    simp only [baseS, eq_self, implies_true, if_true, if_false, reduceIte, Nat.reduceBEq, Nat.reduceEqDiff, Nat.reduceLT, Nat.reduceAdd, reduceCtorEq, tyInt, tdInt, tyInts, tdInts, tyHull, tdHull, c_spec_l9Next, decide_false, room, Nat.reduceLeDiff, Nat.zero_le, storeAV, rowQ, ownInts, FT.of, FT.setf, elems, appAV_I, appI, srcI, ownI, anyI, sameR, appAV_P, appP, srcP, ownP, anyP, Int.toNat_natCast, Int.one_mul, maxAV, storeAV, rowQ, ownInts]
    repeat (refine And.intro ?_ ?_; focus (first | exact ordP (by kernel_rfl) | with_reducible exact rfl | assumption | trivial | (simp only [inR]; omega) | omega | exact ⟨by omega, by omega⟩ | exact ⟨by omega, by omega, by omega⟩ | exact ⟨⟨by omega, by omega⟩, by omega⟩ | exact ⟨by omega, hq.1, by omega, by omega⟩ | ((try simp only [decide_eq_true_eq, Bool.and_eq_true, ne_eq, decide_not, Bool.not_eq_true', Bool.not_eq_false', Bool.or_eq_false_iff, Bool.not_not, decide_eq_false_iff_not]); (try intro hh); (repeat' apply And.intro) <;> (first | omega | (simp only [inR]; omega) | assumption | exact ⟨⟨by omega, by omega⟩, by omega⟩ | exact ⟨by omega, hq.1, by omega, by omega⟩ | exact hh.1 | exact hh.2 | exact hh.2.1 | exact hh.2.2 | exact hh.1.1 | exact hh.1.2 | (intro hq; exact ⟨hh, hq⟩) | (intro hq; exact ⟨hh.1, hq⟩) | (simp_all; done)))))
    refine hK23 _ ?_
    clear hK23
    refine W_re [(6, .own 3 .i64)] (by (try simp only [hnt, hnp]); rfl) ?_
    refine W_ret ?_
    simp only [thenQ, blockQ, loopQ, retQ, reduceIte, Nat.reduceEqDiff]
    refine ret1s 6 rfl rfl rfl ?_
    all_goals (
      rw [leastF, hL, show ((hs.length : Int) - 2 - q).toNat = hs.length - 1 from (by omega)])

end Go.Proofs.Ytpiaeckkjdcifaa
namespace Go.Proofs.Ytpiaeckkjdcifaa
open Go
set_option linter.unusedVariables false
set_option linter.unusedSimpArgs false

theorem bits_all {n : Nat} (hn : n ≤ 7) {x : Int} (h0 : 0 ≤ x) (h1 : x < 2 ^ n) (h : ∀ k, k < n → x / 2 ^ k % 2 = 1) : x = 2 ^ n - 1 := by
  match n, hn, h1, h with
  | 0, _, h1, _ => simp at h1 ⊢; omega
  | 1, _, h1, h => have a0 := h 0 (by omega); simp at h1 a0 ⊢; omega
  | 2, _, h1, h => have a0 := h 0 (by omega); have a1 := h 1 (by omega); simp at h1 a0 a1 ⊢; omega
  | 3, _, h1, h => have a0 := h 0 (by omega); have a1 := h 1 (by omega); have a2 := h 2 (by omega); simp at h1 a0 a1 a2 ⊢; omega
  | 4, _, h1, h => have a0 := h 0 (by omega); have a1 := h 1 (by omega); have a2 := h 2 (by omega); have a3 := h 3 (by omega); simp at h1 a0 a1 a2 a3 ⊢; omega
  | 5, _, h1, h => have a0 := h 0 (by omega); have a1 := h 1 (by omega); have a2 := h 2 (by omega); have a3 := h 3 (by omega); have a4 := h 4 (by omega); simp at h1 a0 a1 a2 a3 a4 ⊢; omega
  | 6, _, h1, h => have a0 := h 0 (by omega); have a1 := h 1 (by omega); have a2 := h 2 (by omega); have a3 := h 3 (by omega); have a4 := h 4 (by omega); have a5 := h 5 (by omega); simp at h1 a0 a1 a2 a3 a4 a5 ⊢; omega
  | 7, _, h1, h => have a0 := h 0 (by omega); have a1 := h 1 (by omega); have a2 := h 2 (by omega); have a3 := h 3 (by omega); have a4 := h 4 (by omega); have a5 := h 5 (by omega); have a6 := h 6 (by omega); simp at h1 a0 a1 a2 a3 a4 a5 a6 ⊢; omega
theorem least_k (c : Nat → Prop) [DecidablePred c] : ∀ n, (∃ k, k < n ∧ c k) → ∃ k, k < n ∧ c k ∧ ∀ j, j < k → ¬ c j
  | 0, ⟨k, hk, _⟩ => by omega
  | n + 1, h => by
    by_cases h2 : ∃ k, k < n ∧ c k
    · obtain ⟨k, h3, h4⟩ := least_k c n h2
      exact ⟨k, by omega, h4⟩
    · obtain ⟨k, hk, hc⟩ := h
      have : k = n := Nat.le_antisymm (by omega) (Nat.not_lt.1 fun h3 => h2 ⟨k, h3, hc⟩)
      subst this
      exact ⟨k, by omega, hc, fun j hj hcj => h2 ⟨j, hj, hcj⟩⟩
theorem bel_lt {b r t s : Int} (h : 0 ≤ s) : belF b r t s < s := by rw [belF]; split <;> omega
/-- Something can be next behind every set that is not whole. -/
theorem next_ex {b r t : Int} {s : List Int} (hn : s.length ≤ 7) (hs : s.Pairwise (· < ·)) (h0 : ∀ k, k < s.length → 0 ≤ s.getD k 0) {x : Int} (hx0 : 0 ≤ x) (hx : x < 2 ^ s.length - 1) : ∃ k, k < s.length ∧ nxtB b r t s x k = true := by
  have hex : ∃ k, k < s.length ∧ ¬ x / 2 ^ k % 2 = 1 := Classical.byContradiction fun h => by
    have := bits_all hn hx0 (by omega) (fun k hk => Classical.byContradiction fun h2 => h ⟨k, hk, h2⟩)
    omega
  obtain ⟨k, hk, hb, hm⟩ := least_k (fun k => ¬ x / 2 ^ k % 2 = 1) _ hex
  refine ⟨k, hk, ?_⟩
  rw [nxtB, decide_eq_false hb, Bool.not_false, Bool.true_and, List.all_eq_true]
  intro j hj
  have hj := List.mem_range.1 hj
  refine ok_good fun he => ?_
  have hlt := bel_lt (b := b) (r := r) (t := t) (h0 k hk)
  rw [← he] at hlt
  have hjk : j < k := Nat.not_le.1 fun hkj => by
    rcases Nat.lt_or_eq_of_le hkj with h | h
    · have := List.pairwise_iff_getElem.1 hs k j hk hj h
      rw [List.getD_eq_getElem?_getD, List.getD_eq_getElem?_getD, List.getElem?_eq_getElem hk, List.getElem?_eq_getElem hj] at hlt
      simp only [Option.getD_some] at hlt
      omega
    · subst h; omega
  have := Classical.byContradiction (hm j hjk)
  omega
theorem bestK_congr {b r t : Int} {s hs l l' : List Int} {x : Int} : ∀ n, (∀ k, k < n → nxtB b r t s x k = true → l.getD (x + 2 ^ k).toNat 0 = l'.getD (x + 2 ^ k).toNat 0) → bestK b r t s hs l x n = bestK b r t s hs l' x n
  | 0, _ => rfl
  | n + 1, h => by
    have ih := bestK_congr (hs := hs) n (fun k hk => h k (by omega))
    rw [bestK, bestK, ih]
    cases hb : nxtB b r t s x n with
    | false => simp
    | true => rw [h n (by omega) hb]
theorem lstF_stay {b r t : Int} {s hs : List Int} {j : Nat} (hj : j < hs.length) : ∀ i m, (hs.length - 1 - i ≤ j) → i ≤ m → m ≤ hs.length - 1 → (lstF b r t s hs m).getD j 0 = (lstF b r t s hs i).getD j 0
  | i, 0, h, him, _ => by rw [show i = 0 by omega]
  | i, m + 1, h, him, hm => by
    by_cases e : i = m + 1
    · rw [e]
    · have ih := lstF_stay (b := b) (r := r) (t := t) (s := s) hj i m h (by omega) (by omega)
      rw [lstF, List.getD_eq_getElem?_getD, List.getElem?_set_ne (by omega), ← List.getD_eq_getElem?_getD, ih]
theorem leastF_get {b r t : Int} {s hs : List Int} (hn : s.length ≤ 7) (hhs : hs.length = 2 ^ s.length) {x : Nat} (hx : x + 1 < hs.length) : (leastF b r t s hs).getD x 0 = bestK b r t s hs (leastF b r t s hs) (x : Int) s.length := by
  have hpn := two_pow_nat hn
  have hi : hs.length - 2 - (hs.length - 2 - x) = x := by omega
  have e1 : (leastF b r t s hs).getD x 0 = (lstF b r t s hs (hs.length - 2 - x + 1)).getD x 0 := lstF_stay (by omega) _ _ (by omega) (by omega) (Nat.le_refl _)
  rw [e1, lstF, hi, List.getD_eq_getElem?_getD, List.getElem?_set_self (by rw [lstF_len]; omega), Option.getD_some]
  have e2 : (hs.length : Int) - 2 - ((hs.length - 2 - x : Nat) : Int) = x := by omega
  rw [e2]
  refine bestK_congr _ fun k hk hb => ?_
  have hid := next_idx hn (k := (k : Int)) (by omega) (by omega) (x := (x : Int)) (by omega) (by have := hpn.2.2; omega) (by rw [Int.toNat_natCast]; exact hb)
  have hp := two_pow_le (n := k) (by omega)
  rw [Int.toNat_natCast] at hid
  exact (lstF_stay (by have := hpn.2.2; omega) _ _ (by omega) (by omega) (Nat.le_refl _)).symm
theorem leastF_len (b r t : Int) (s hs : List Int) : (leastF b r t s hs).length = hs.length := lstF_len _ _ _ _ _ _
theorem leastF_last {b r t : Int} {s hs : List Int} (h : 0 < hs.length) : (leastF b r t s hs).getD (hs.length - 1) 0 = 0 := by
  have e1 : (leastF b r t s hs).getD (hs.length - 1) 0 = (lstF b r t s hs 0).getD (hs.length - 1) 0 := lstF_stay (by omega) _ _ (by omega) (by omega) (Nat.le_refl _)
  rw [e1, lstF, List.getD_eq_getElem?_getD, List.getElem?_replicate, if_pos (by omega)]; rfl
/-- The least worst heel is that of something that can be next, and no greater than any. -/
theorem bestK_law {b r t : Int} {s hs l : List Int} {x : Int} (hnn : ∀ k, k < s.length → nxtB b r t s x k = true → 0 ≤ max (hs.getD (x + 2 ^ k).toNat 0) (l.getD (x + 2 ^ k).toNat 0)) : ∀ n, n ≤ s.length →
    ((bestK b r t s hs l x n = -1 ∧ ∀ k, k < n → nxtB b r t s x k = false) ∨ (∃ k, k < n ∧ nxtB b r t s x k = true ∧ bestK b r t s hs l x n = max (hs.getD (x + 2 ^ k).toNat 0) (l.getD (x + 2 ^ k).toNat 0))) ∧
    ∀ k, k < n → nxtB b r t s x k = true → 0 ≤ bestK b r t s hs l x n ∧ bestK b r t s hs l x n ≤ max (hs.getD (x + 2 ^ k).toNat 0) (l.getD (x + 2 ^ k).toNat 0)
  | 0, _ => ⟨.inl ⟨rfl, fun k hk => by omega⟩, fun k hk => by omega⟩
  | n + 1, hn => by
    obtain ⟨h1, h2⟩ := bestK_law hnn n (by omega)
    rw [bestK]
    split
    · rename_i h
      have hm := hnn n (by omega) h.1
      refine ⟨.inr ⟨n, by omega, h.1, rfl⟩, fun k hk hb => ⟨hm, ?_⟩⟩
      by_cases e : k = n
      · subst e; exact Int.le_refl _
      · have := h2 k (by omega) hb
        rcases h.2 with h3 | h3 <;> omega
    · rename_i h
      refine ⟨?_, fun k hk hb => ?_⟩
      · rcases h1 with ⟨h3, h4⟩ | ⟨k, h3, h4⟩
        · refine .inl ⟨h3, fun k hk => ?_⟩
          by_cases e : k = n
          · subst e
            cases hb : nxtB b r t s x k with
            | false => rfl
            | true => exact absurd ⟨hb, .inl (by omega)⟩ h
          · exact h4 k (by omega)
        · exact .inr ⟨k, by omega, h4⟩
      · by_cases e : k = n
        · subst e
          have h5 : ¬ (bestK b r t s hs l x k < 0 ∨ max (hs.getD (x + 2 ^ k).toNat 0) (l.getD (x + 2 ^ k).toNat 0) < bestK b r t s hs l x k) := fun h6 => h ⟨hb, h6⟩
          exact ⟨by omega, by omega⟩
        · exact h2 k (by omega) hb
theorem leastF_nn {b r t : Int} {s hs : List Int} (hn : s.length ≤ 7) (hhs : hs.length = 2 ^ s.length) (hso : s.Pairwise (· < ·)) (h0 : ∀ k, k < s.length → 0 ≤ s.getD k 0) (hh : ∀ k, k < hs.length → 0 ≤ hs.getD k 0) :
    ∀ (m x : Nat), hs.length - 1 - x = m → x < hs.length → 0 ≤ (leastF b r t s hs).getD x 0 := by
  intro m
  have hpn := two_pow_nat hn
  induction m using Nat.strongRecOn with
  | _ m ih =>
    intro x hm hx
    by_cases e : x + 1 < hs.length
    · rw [leastF_get hn hhs e]
      have hidx : ∀ k, k < s.length → nxtB b r t s (x : Int) k = true → ((x : Int) + 2 ^ k).toNat < hs.length ∧ x < ((x : Int) + 2 ^ k).toNat := fun k hk hb => by
        have hid := next_idx hn (k := (k : Int)) (by omega) (by omega) (x := (x : Int)) (by omega) (by have := hpn.2.2; omega) (by rw [Int.toNat_natCast]; exact hb)
        have hp := two_pow_le (n := k) (by omega)
        rw [Int.toNat_natCast] at hid
        have := hpn.2.2
        omega
      obtain ⟨k, hk, hb⟩ := next_ex (b := b) (r := r) (t := t) hn hso h0 (x := (x : Int)) (by omega) (by have := hpn.2.2; omega)
      exact ((bestK_law (fun k hk hb => by have := hh _ (hidx k hk hb).1; omega) s.length (Nat.le_refl _)).2 k hk hb).1
    · have e2 : x = hs.length - 1 := by omega
      rw [e2, leastF_last (by omega)]
      exact Int.le_refl _
/-- The heels of all sets, and the least worst ones behind them. -/
def hsR (r t : Int) (bs : List BoxD) (p : List Int) : List Int := heelsF r t bs p (fullS p) (2 ^ (fullS p).length)
def lsR (b r t : Int) (bs : List BoxD) (p : List Int) : List Int := leastF b r t (fullS p) (hsR r t bs p)
def cndB (b r t : Int) (s hs l : List Int) (w x : Int) (k : Nat) : Bool := nxtB b r t s x k && decide (max (hs.getD (x + 2 ^ k).toNat 0) (l.getD (x + 2 ^ k).toNat 0) ≤ w)
def firstF (c : Nat → Bool) : Nat → Nat
  | 0 => 0
  | n + 1 => if c 0 = true then 0 else firstF (fun k => c (k + 1)) n + 1
theorem firstF_eq : ∀ (n : Nat) (c : Nat → Bool) (k : Nat), k < n → c k = true → (∀ j, j < k → c j = false) → firstF c n = k
  | 0, _, _, h, _, _ => by omega
  | n + 1, c, 0, _, h1, _ => by rw [firstF, if_pos h1]
  | n + 1, c, k + 1, h, h1, h2 => by
    rw [firstF, if_neg (by rw [h2 0 (by omega)]; simp), firstF_eq n (fun k => c (k + 1)) k (by omega) h1 (fun j hj => h2 (j + 1) (by omega))]
/-- Slot by slot the first that leads to no greater heel than w. -/
def grF (b r t : Int) (s hs l : List Int) (w : Int) : Nat → Int → List Int
  | 0, _ => []
  | f + 1, x => if x < 2 ^ s.length - 1 then s.getD (firstF (cndB b r t s hs l w x) s.length) 0 :: grF b r t s hs l w f (x + 2 ^ (firstF (cndB b r t s hs l w x) s.length)) else []
def bestS (b r t : Int) (bs : List BoxD) (p : List Int) : List Int := if planB b r t bs p = true ∧ (fullS p).length ≤ 7 then grF b r t (fullS p) (hsR r t bs p) (lsR b r t bs p) ((lsR b r t bs p).getD 0 0) (2 ^ (fullS p).length) 0 else []
theorem grF_step {b r t : Int} {s hs l : List Int} {w x : Int} {f : Nat} {k : Int} (hf : 0 < f) (hx : x < 2 ^ s.length - 1) (hk0 : 0 ≤ k) (hk : k < s.length) (hc : cndB b r t s hs l w x k.toNat = true) (hm : ∀ j : Nat, (j : Int) < k → cndB b r t s hs l w x j = false) :
    grF b r t s hs l w f x = s.getD k.toNat 0 :: grF b r t s hs l w (f - 1) (x + 2 ^ k.toNat) := by
  obtain ⟨g, rfl⟩ : ∃ g, f = g + 1 := ⟨f - 1, by omega⟩
  have e := firstF_eq s.length (cndB b r t s hs l w x) k.toNat (by omega) hc (fun j hj => hm j (by omega))
  rw [grF, if_pos hx, e]; rfl
theorem grF_end {b r t : Int} {s hs l : List Int} {w x : Int} {f : Nat} (hx : ¬ x < 2 ^ s.length - 1) : grF b r t s hs l w f x = [] := by
  cases f with
  | zero => rfl
  | succ f => rw [grF, if_neg hx]
theorem cnd_step {b r t : Int} {s hs l : List Int} {w x k : Int} (h0 : 0 ≤ k) (hm : ∀ j : Nat, (j : Int) < k → cndB b r t s hs l w x j = false) (h : nxtB b r t s x k.toNat = false ∨ w < max (hs.getD (x + 2 ^ k.toNat).toNat 0) (l.getD (x + 2 ^ k.toNat).toNat 0)) : ∀ j : Nat, (j : Int) < k + 1 → cndB b r t s hs l w x j = false := by
  intro j hj
  by_cases e : (j : Int) = k
  · have ej : j = k.toNat := by omega
    rw [ej, cndB]
    rcases h with h | h
    · rw [h]; rfl
    · rw [decide_eq_false (by omega), Bool.and_false]
  · exact hm j (by omega)
theorem full_asc (p : List Int) : (fullS p).Pairwise (· < ·) := by
  have : ∀ n, (selTo (fullP p) n).Pairwise (· < ·) ∧ ∀ x ∈ selTo (fullP p) n, x < n := by
    intro n
    induction n with
    | zero => simp [selTo]
    | succ n ih =>
      rw [selTo]
      split
      · refine ⟨List.pairwise_append.2 ⟨ih.1, by simp, fun a ha c hc => ?_⟩, fun x hx => ?_⟩
        · rw [List.mem_singleton] at hc; rw [hc]; exact ih.2 a ha
        · rcases List.mem_append.1 hx with h | h
          · have := ih.2 x h; omega
          · rw [List.mem_singleton] at h; omega
      · exact ⟨ih.1, fun x hx => by have := ih.2 x hx; omega⟩
  exact (this p.length).1
theorem full_in2 (p : List Int) : ∀ k, k < (fullS p).length → 0 ≤ (fullS p).getD k 0 ∧ (fullS p).getD k 0 < p.length := fun k hk => by
  have := fullS_get (p := p) (j := (k : Int)) (by omega) (by omega)
  rw [Int.toNat_natCast] at this
  exact ⟨this.1, this.2.1⟩
/-- Some slot leads to no greater heel. -/
theorem cnd_ex {b r t : Int} {bs : List BoxD} {p : List Int} (hn : (fullS p).length ≤ 7) {w x : Int} (h0 : 0 ≤ x) (hx : x < 2 ^ (fullS p).length - 1) (hw : (lsR b r t bs p).getD x.toNat 0 ≤ w) : ∃ k, k < (fullS p).length ∧ cndB b r t (fullS p) (hsR r t bs p) (lsR b r t bs p) w x k = true := by
  have hpn := two_pow_nat hn
  have hhs : (hsR r t bs p).length = 2 ^ (fullS p).length := heelsF_len _ _ _ _ _ _
  have h00 : ∀ k, k < (fullS p).length → 0 ≤ (fullS p).getD k 0 := fun k hk => (full_in2 p k hk).1
  have hh : ∀ k, k < (hsR r t bs p).length → 0 ≤ (hsR r t bs p).getD k 0 := fun k hk => heelsF_nn (by rw [hhs] at hk; exact hk)
  have hlx : x.toNat + 1 < (hsR r t bs p).length := by rw [hhs]; have := hpn.2.2; omega
  rw [lsR, leastF_get hn hhs hlx, show ((x.toNat : Nat) : Int) = x by omega] at hw
  have hidx : ∀ k, k < (fullS p).length → nxtB b r t (fullS p) x k = true → (x + 2 ^ k).toNat < (hsR r t bs p).length := fun k hk hb => by
    have hid := next_idx hn (k := (k : Int)) (by omega) (by omega) h0 (by omega) (by rw [Int.toNat_natCast]; exact hb)
    rw [Int.toNat_natCast] at hid
    rw [hhs]; have := hpn.2.2; omega
  have hnn : ∀ k, k < (fullS p).length → nxtB b r t (fullS p) x k = true → 0 ≤ max ((hsR r t bs p).getD (x + 2 ^ k).toNat 0) ((leastF b r t (fullS p) (hsR r t bs p)).getD (x + 2 ^ k).toNat 0) := fun k hk hb => by have := hh _ (hidx k hk hb); omega
  obtain ⟨h1, _⟩ := bestK_law hnn (fullS p).length (Nat.le_refl _)
  obtain ⟨k0, hk0, hb0⟩ := next_ex (b := b) (r := r) (t := t) hn (full_asc p) h00 h0 hx
  rcases h1 with ⟨_, h2⟩ | ⟨k, hk, hb, he⟩
  · rw [h2 k0 hk0] at hb0; cases hb0
  · refine ⟨k, hk, ?_⟩
    rw [cndB, hb, Bool.true_and, decide_eq_true_eq]
    rw [he] at hw
    exact hw
theorem bestS_no {b r t : Int} {bs : List BoxD} {p : List Int} (h : planB b r t bs p = false ∨ (7 : Int) < (fullS p).length) : [] = bestS b r t bs p ∧ false = (planB b r t bs p && decide ((fullS p).length ≤ 7)) := by
  rcases h with h | h
  · exact ⟨by rw [bestS, if_neg (by rw [h]; simp)], by rw [h]; rfl⟩
  · exact ⟨by rw [bestS, if_neg (fun h2 => by omega)], by rw [decide_eq_false (by omega), Bool.and_false]⟩
theorem bestS_yes {b r t : Int} {bs : List BoxD} {p : List Int} (h : planB b r t bs p = true) (h7 : (fullS p).length ≤ 7) {out : List Int} {f : Nat} {x : Int} (hx : ¬ x < 2 ^ (fullS p).length - 1) (hg : out ++ grF b r t (fullS p) (hsR r t bs p) (lsR b r t bs p) ((lsR b r t bs p).getD 0 0) f x = grF b r t (fullS p) (hsR r t bs p) (lsR b r t bs p) ((lsR b r t bs p).getD 0 0) (2 ^ (fullS p).length) 0) : out = bestS b r t bs p ∧ true = (planB b r t bs p && decide ((fullS p).length ≤ 7)) := by
  rw [grF_end hx, List.append_nil] at hg
  exact ⟨by rw [bestS, if_pos ⟨h, h7⟩, hg], by rw [h, decide_eq_true h7]; rfl⟩

end Go.Proofs.Ytpiaeckkjdcifaa
namespace Go.Proofs.Ytpiaeckkjdcifaa
open Go
set_option linter.unusedVariables false
set_option linter.unusedSimpArgs false

def c_spec_BestOrder : Ctr where
  modes := [.v .p, .v (.r .box), .v (.r .i64)]
  al := false
  run := fun xs os => match xs, os with
    | [.agg [.int b, .int r, .int t], .rs .box bs, .rs .i64 p], [] => some ⟨bs.length ≤ 9223372036854775807 ∧ p.length ≤ 1099511627775, .tup [.sl 0, .bool (planB b r t bs p && decide ((fullS p).length ≤ 7))], [.sl 3 .i64 (bestS b r t bs p)], []⟩
    | _, _ => none
theorem m_spec_BestOrder : Meets Try.prog 50 c_spec_BestOrder := by
  refine meets_of (T := tyT) tyOK Try.func50 (by rfl) rfl (by decide) ?_
  intro args owns R hrun hpre
  simp only [c_spec_BestOrder] at hrun
  split at hrun
  case h_2 => cases hrun
  rename_i b r t bs p
  cases hrun
  try dsimp only at hpre
  refine ⟨_, rfl, fun E hP hnt hnp => ?_⟩
  replace hnt : E.nt = 85 := hnt
  replace hnp : E.np = 3 := hnp
  have hT : ∀ t d, tyT t = some d → TyOK E.P t d := hP ▸ tyOK
  have hG : ∀ f C, Γof [(39, c_spec_PlanValid), (99, c_spec_l9Slots), (100, c_spec_l9Heels), (101, c_spec_l9Least), (102, c_spec_l9Next)] f = some C → Meets E.P f C := hΓof (by rw [hP]; exact ⟨m_spec_PlanValid, m_spec_l9Slots, m_spec_l9Heels, m_spec_l9Least, m_spec_l9Next, trivial⟩)
  try simp only [show Try.f50.ntmps = 85 from rfl]
  have hbs := hpre.1
  have hp := hpre.2
  have hfl := fullS_len p
  have hin := full_in2 p
  refine W_seq (fun K1 hK1 => ?_)
  refine W_region hT hG [] [1, 2, 3] ?_
  rw [hnt]
  simp only [baseS, eq_self, implies_true, if_true, if_false, reduceIte, Nat.reduceBEq, Nat.reduceEqDiff, Nat.reduceLT, Nat.reduceAdd, reduceCtorEq, tyInt, tdInt, tyInts, tdInts, tyHull, tdHull, tyBoxes, tdBoxes, c_spec_PlanValid, c_spec_l9Slots, c_spec_l9Heels, c_spec_l9Least, c_spec_l9Next, decide_false, room, Nat.reduceLeDiff, Nat.zero_le, storeAV, rowQ, ownInts, FT.of, FT.setf, elems, appAV_I, appI, srcI, ownI, anyI, sameR, appAV_P, appP, srcP, ownP, anyP, Int.toNat_natCast, Int.one_mul, maxAV]
  repeat (refine And.intro ?_ ?_; focus (first | exact ordP (by kernel_rfl) | with_reducible exact rfl | assumption | trivial | (simp only [inR]; omega) | omega | exact ⟨by omega, by omega⟩ | exact ⟨by omega, by omega, by omega⟩ | exact ⟨⟨hbs, hpl⟩, hin, hs7⟩ | exact ⟨hs7, hhl⟩ | exact ⟨hs7, hx.1, hk.1⟩ | exact ⟨hs7, hx.1, by omega, by omega⟩ | exact hid | ((try simp only [decide_eq_true_eq, Bool.and_eq_true, ne_eq, decide_not, Bool.not_eq_true', Bool.not_eq_false', Bool.or_eq_false_iff, Bool.not_not, decide_eq_false_iff_not]); (try intro hh); (repeat' apply And.intro) <;> (first | omega | (simp only [inR]; omega) | assumption | exact ⟨⟨hbs, hpl⟩, hin, hs7⟩ | exact ⟨hs7, hhl⟩ | exact ⟨hs7, hx.1, hk.1⟩ | exact ⟨hs7, hx.1, by omega, by omega⟩ | exact hid | exact hh.1 | exact hh.2 | exact hh.2.1 | exact hh.2.2 | exact hh.1.1 | exact hh.1.2 | (intro hq; exact ⟨hh, hq⟩) | (intro hq; exact ⟨hh.1, hq⟩) | (simp_all; done)))))
  refine hK1 _ ?_
  clear hK1
  refine W_seq (fun K2 hK2 => ?_)
  refine W_region hT hG [] [1, 2, 3, 8] ?_
  rw [hnt]
  simp only [baseS, eq_self, implies_true, if_true, if_false, reduceIte, Nat.reduceBEq, Nat.reduceEqDiff, Nat.reduceLT, Nat.reduceAdd, reduceCtorEq, tyInt, tdInt, tyInts, tdInts, tyHull, tdHull, tyBoxes, tdBoxes, c_spec_PlanValid, c_spec_l9Slots, c_spec_l9Heels, c_spec_l9Least, c_spec_l9Next, decide_false, room, Nat.reduceLeDiff, Nat.zero_le, storeAV, rowQ, ownInts, FT.of, FT.setf, elems, appAV_I, appI, srcI, ownI, anyI, sameR, appAV_P, appP, srcP, ownP, anyP, Int.toNat_natCast, Int.one_mul, maxAV]
  repeat (refine And.intro ?_ ?_; focus (first | exact ordP (by kernel_rfl) | with_reducible exact rfl | assumption | trivial | (simp only [inR]; omega) | omega | exact ⟨by omega, by omega⟩ | exact ⟨by omega, by omega, by omega⟩ | exact ⟨⟨hbs, hpl⟩, hin, hs7⟩ | exact ⟨hs7, hhl⟩ | exact ⟨hs7, hx.1, hk.1⟩ | exact ⟨hs7, hx.1, by omega, by omega⟩ | exact hid | ((try simp only [decide_eq_true_eq, Bool.and_eq_true, ne_eq, decide_not, Bool.not_eq_true', Bool.not_eq_false', Bool.or_eq_false_iff, Bool.not_not, decide_eq_false_iff_not]); (try intro hh); (repeat' apply And.intro) <;> (first | omega | (simp only [inR]; omega) | assumption | exact ⟨⟨hbs, hpl⟩, hin, hs7⟩ | exact ⟨hs7, hhl⟩ | exact ⟨hs7, hx.1, hk.1⟩ | exact ⟨hs7, hx.1, by omega, by omega⟩ | exact hid | exact hh.1 | exact hh.2 | exact hh.2.1 | exact hh.2.2 | exact hh.1.1 | exact hh.1.2 | (intro hq; exact ⟨hh, hq⟩) | (intro hq; exact ⟨hh.1, hq⟩) | (simp_all; done)))))
  refine hK2 _ ?_
  clear hK2
  refine W_seq (fun K3 hK3 => ?_)
  refine W_region hT hG [] [1, 2, 3, 8, 9] ?_
  rw [hnt]
  simp only [baseS, eq_self, implies_true, if_true, if_false, reduceIte, Nat.reduceBEq, Nat.reduceEqDiff, Nat.reduceLT, Nat.reduceAdd, reduceCtorEq, tyInt, tdInt, tyInts, tdInts, tyHull, tdHull, tyBoxes, tdBoxes, c_spec_PlanValid, c_spec_l9Slots, c_spec_l9Heels, c_spec_l9Least, c_spec_l9Next, decide_false, room, Nat.reduceLeDiff, Nat.zero_le, storeAV, rowQ, ownInts, FT.of, FT.setf, elems, appAV_I, appI, srcI, ownI, anyI, sameR, appAV_P, appP, srcP, ownP, anyP, Int.toNat_natCast, Int.one_mul, maxAV]
  repeat (refine And.intro ?_ ?_; focus (first | exact ordP (by kernel_rfl) | with_reducible exact rfl | assumption | trivial | (simp only [inR]; omega) | omega | exact ⟨by omega, by omega⟩ | exact ⟨by omega, by omega, by omega⟩ | exact ⟨⟨hbs, hpl⟩, hin, hs7⟩ | exact ⟨hs7, hhl⟩ | exact ⟨hs7, hx.1, hk.1⟩ | exact ⟨hs7, hx.1, by omega, by omega⟩ | exact hid | ((try simp only [decide_eq_true_eq, Bool.and_eq_true, ne_eq, decide_not, Bool.not_eq_true', Bool.not_eq_false', Bool.or_eq_false_iff, Bool.not_not, decide_eq_false_iff_not]); (try intro hh); (repeat' apply And.intro) <;> (first | omega | (simp only [inR]; omega) | assumption | exact ⟨⟨hbs, hpl⟩, hin, hs7⟩ | exact ⟨hs7, hhl⟩ | exact ⟨hs7, hx.1, hk.1⟩ | exact ⟨hs7, hx.1, by omega, by omega⟩ | exact hid | exact hh.1 | exact hh.2 | exact hh.2.1 | exact hh.2.2 | exact hh.1.1 | exact hh.1.2 | (intro hq; exact ⟨hh, hq⟩) | (intro hq; exact ⟨hh.1, hq⟩) | (simp_all; done)))))
  refine hK3 _ ?_
  clear hK3
  refine W_seq (fun K4 hK4 => ?_)
  refine W_seq (fun K5 hK5 => ?_)
  refine W_region hT hG [] [1, 2, 3, 8, 9, 27] ?_
  rw [hnt]
  simp only [baseS, eq_self, implies_true, if_true, if_false, reduceIte, Nat.reduceBEq, Nat.reduceEqDiff, Nat.reduceLT, Nat.reduceAdd, reduceCtorEq, tyInt, tdInt, tyInts, tdInts, tyHull, tdHull, tyBoxes, tdBoxes, c_spec_PlanValid, c_spec_l9Slots, c_spec_l9Heels, c_spec_l9Least, c_spec_l9Next, decide_false, room, Nat.reduceLeDiff, Nat.zero_le, storeAV, rowQ, ownInts, FT.of, FT.setf, elems, appAV_I, appI, srcI, ownI, anyI, sameR, appAV_P, appP, srcP, ownP, anyP, Int.toNat_natCast, Int.one_mul, maxAV]
  repeat (refine And.intro ?_ ?_; focus (first | exact ordP (by kernel_rfl) | with_reducible exact rfl | assumption | trivial | (simp only [inR]; omega) | omega | exact ⟨by omega, by omega⟩ | exact ⟨by omega, by omega, by omega⟩ | exact ⟨⟨hbs, hpl⟩, hin, hs7⟩ | exact ⟨hs7, hhl⟩ | exact ⟨hs7, hx.1, hk.1⟩ | exact ⟨hs7, hx.1, by omega, by omega⟩ | exact hid | ((try simp only [decide_eq_true_eq, Bool.and_eq_true, ne_eq, decide_not, Bool.not_eq_true', Bool.not_eq_false', Bool.or_eq_false_iff, Bool.not_not, decide_eq_false_iff_not]); (try intro hh); (repeat' apply And.intro) <;> (first | omega | (simp only [inR]; omega) | assumption | exact ⟨⟨hbs, hpl⟩, hin, hs7⟩ | exact ⟨hs7, hhl⟩ | exact ⟨hs7, hx.1, hk.1⟩ | exact ⟨hs7, hx.1, by omega, by omega⟩ | exact hid | exact hh.1 | exact hh.2 | exact hh.2.1 | exact hh.2.2 | exact hh.1.1 | exact hh.1.2 | (intro hq; exact ⟨hh, hq⟩) | (intro hq; exact ⟨hh.1, hq⟩) | (simp_all; done)))))
  refine hK5 _ ?_
  clear hK5
  refine W_cond (b := _) rfl (fun hc6 => ?_) (fun hc6 => ?_)
  · try simp only [decide_eq_true_eq, decide_eq_false_iff_not, ne_eq, Decidable.not_not, Bool.not_eq_true', Bool.not_eq_false', Bool.or_eq_true, Bool.and_eq_true, Bool.or_eq_false_iff, Bool.and_eq_false_iff] at hc6
    refine W_seq (fun K7 hK7 => ?_)
    refine W_region hT hG [] [6, 7] ?_
    rw [hnt]
    simp only [baseS, eq_self, implies_true, if_true, if_false, reduceIte, Nat.reduceBEq, Nat.reduceEqDiff, Nat.reduceLT, Nat.reduceAdd, reduceCtorEq, tyInt, tdInt, tyInts, tdInts, tyHull, tdHull, tyBoxes, tdBoxes, c_spec_PlanValid, c_spec_l9Slots, c_spec_l9Heels, c_spec_l9Least, c_spec_l9Next, decide_false, room, Nat.reduceLeDiff, Nat.zero_le, storeAV, rowQ, ownInts, FT.of, FT.setf, elems, appAV_I, appI, srcI, ownI, anyI, sameR, appAV_P, appP, srcP, ownP, anyP, Int.toNat_natCast, Int.one_mul, maxAV]
    repeat (refine And.intro ?_ ?_; focus (first | exact ordP (by kernel_rfl) | with_reducible exact rfl | assumption | trivial | (simp only [inR]; omega) | omega | exact ⟨by omega, by omega⟩ | exact ⟨by omega, by omega, by omega⟩ | exact ⟨⟨hbs, hpl⟩, hin, hs7⟩ | exact ⟨hs7, hhl⟩ | exact ⟨hs7, hx.1, hk.1⟩ | exact ⟨hs7, hx.1, by omega, by omega⟩ | exact hid | ((try simp only [decide_eq_true_eq, Bool.and_eq_true, ne_eq, decide_not, Bool.not_eq_true', Bool.not_eq_false', Bool.or_eq_false_iff, Bool.not_not, decide_eq_false_iff_not]); (try intro hh); (repeat' apply And.intro) <;> (first | omega | (simp only [inR]; omega) | assumption | exact ⟨⟨hbs, hpl⟩, hin, hs7⟩ | exact ⟨hs7, hhl⟩ | exact ⟨hs7, hx.1, hk.1⟩ | exact ⟨hs7, hx.1, by omega, by omega⟩ | exact hid | exact hh.1 | exact hh.2 | exact hh.2.1 | exact hh.2.2 | exact hh.1.1 | exact hh.1.2 | (intro hq; exact ⟨hh, hq⟩) | (intro hq; exact ⟨hh.1, hq⟩) | (simp_all; done)))))
    refine hK7 _ ?_
    clear hK7
    refine W_re [(6, .own 3 .i64), (7, .as)] (by (try simp only [hnt, hnp]); rfl) ?_
    refine W_ret ?_
    simp only [thenQ, blockQ, loopQ, retQ, reduceIte, Nat.reduceEqDiff]
    refine ret1sb 6 rfl rfl rfl ?_ ?_
    all_goals (
      first
      | exact (bestS_no hc6).1
      | exact (bestS_no hc6).2
      | exact (bestS_yes hpl hs7 (by rw [← hpn.2.2, ← hhl2]; exact hc6) hg).1
      | exact (bestS_yes hpl hs7 (by rw [← hpn.2.2, ← hhl2]; exact hc6) hg).2)
  · try simp only [decide_eq_true_eq, decide_eq_false_iff_not, ne_eq, Decidable.not_not, Bool.not_eq_true', Bool.not_eq_false', Bool.or_eq_true, Bool.and_eq_true, Bool.or_eq_false_iff, Bool.and_eq_false_iff] at hc6
    refine W_skip ?_
    simp only [thenQ, blockQ, loopQ, reduceIte, Nat.reduceEqDiff]
    refine hK4 _ ?_
    clear hK4
    refine W_seq (fun K8 hK8 => ?_)
    refine W_region hT hG [] [3, 8, 9, 10] ?_
    rw [hnt]
    have hpl := hc6.1
    have hs7 : (fullS p).length ≤ 7 := by have := hc6.2; omega
    simp only [baseS, eq_self, implies_true, if_true, if_false, reduceIte, Nat.reduceBEq, Nat.reduceEqDiff, Nat.reduceLT, Nat.reduceAdd, reduceCtorEq, tyInt, tdInt, tyInts, tdInts, tyHull, tdHull, tyBoxes, tdBoxes, c_spec_PlanValid, c_spec_l9Slots, c_spec_l9Heels, c_spec_l9Least, c_spec_l9Next, decide_false, room, Nat.reduceLeDiff, Nat.zero_le, storeAV, rowQ, ownInts, FT.of, FT.setf, elems, appAV_I, appI, srcI, ownI, anyI, sameR, appAV_P, appP, srcP, ownP, anyP, Int.toNat_natCast, Int.one_mul, maxAV]
    repeat (refine And.intro ?_ ?_; focus (first | exact ordP (by kernel_rfl) | with_reducible exact rfl | assumption | trivial | (simp only [inR]; omega) | omega | exact ⟨by omega, by omega⟩ | exact ⟨by omega, by omega, by omega⟩ | exact ⟨⟨hbs, hpl⟩, hin, hs7⟩ | exact ⟨hs7, hhl⟩ | exact ⟨hs7, hx.1, hk.1⟩ | exact ⟨hs7, hx.1, by omega, by omega⟩ | exact hid | ((try simp only [decide_eq_true_eq, Bool.and_eq_true, ne_eq, decide_not, Bool.not_eq_true', Bool.not_eq_false', Bool.or_eq_false_iff, Bool.not_not, decide_eq_false_iff_not]); (try intro hh); (repeat' apply And.intro) <;> (first | omega | (simp only [inR]; omega) | assumption | exact ⟨⟨hbs, hpl⟩, hin, hs7⟩ | exact ⟨hs7, hhl⟩ | exact ⟨hs7, hx.1, hk.1⟩ | exact ⟨hs7, hx.1, by omega, by omega⟩ | exact hid | exact hh.1 | exact hh.2 | exact hh.2.1 | exact hh.2.2 | exact hh.1.1 | exact hh.1.2 | (intro hq; exact ⟨hh, hq⟩) | (intro hq; exact ⟨hh.1, hq⟩) | (simp_all; done)))))
    refine hK8 _ ?_
    clear hK8
    refine W_seq (fun K9 hK9 => ?_)
    refine W_region hT hG [] [3, 8, 9, 10, 11] ?_
    rw [hnt]
    have hhl : (heelsF r t bs p (fullS p) (2 ^ (fullS p).length)).length = 2 ^ (fullS p).length := heelsF_len _ _ _ _ _ _
    have hpw := two_pow_le hs7
    have hpn := two_pow_nat hs7
    simp only [baseS, eq_self, implies_true, if_true, if_false, reduceIte, Nat.reduceBEq, Nat.reduceEqDiff, Nat.reduceLT, Nat.reduceAdd, reduceCtorEq, tyInt, tdInt, tyInts, tdInts, tyHull, tdHull, tyBoxes, tdBoxes, c_spec_PlanValid, c_spec_l9Slots, c_spec_l9Heels, c_spec_l9Least, c_spec_l9Next, decide_false, room, Nat.reduceLeDiff, Nat.zero_le, storeAV, rowQ, ownInts, FT.of, FT.setf, elems, appAV_I, appI, srcI, ownI, anyI, sameR, appAV_P, appP, srcP, ownP, anyP, Int.toNat_natCast, Int.one_mul, maxAV]
    repeat (refine And.intro ?_ ?_; focus (first | exact ordP (by kernel_rfl) | with_reducible exact rfl | assumption | trivial | (simp only [inR]; omega) | omega | exact ⟨by omega, by omega⟩ | exact ⟨by omega, by omega, by omega⟩ | exact ⟨⟨hbs, hpl⟩, hin, hs7⟩ | exact ⟨hs7, hhl⟩ | exact ⟨hs7, hx.1, hk.1⟩ | exact ⟨hs7, hx.1, by omega, by omega⟩ | exact hid | ((try simp only [decide_eq_true_eq, Bool.and_eq_true, ne_eq, decide_not, Bool.not_eq_true', Bool.not_eq_false', Bool.or_eq_false_iff, Bool.not_not, decide_eq_false_iff_not]); (try intro hh); (repeat' apply And.intro) <;> (first | omega | (simp only [inR]; omega) | assumption | exact ⟨⟨hbs, hpl⟩, hin, hs7⟩ | exact ⟨hs7, hhl⟩ | exact ⟨hs7, hx.1, hk.1⟩ | exact ⟨hs7, hx.1, by omega, by omega⟩ | exact hid | exact hh.1 | exact hh.2 | exact hh.2.1 | exact hh.2.2 | exact hh.1.1 | exact hh.1.2 | (intro hq; exact ⟨hh, hq⟩) | (intro hq; exact ⟨hh.1, hq⟩) | (simp_all; done)))))
    refine hK9 _ ?_
    clear hK9
    refine W_seq (fun K10 hK10 => ?_)
    refine W_region hT hG [] [3, 8, 9, 10, 11, 12] ?_
    rw [hnt]
    have hll : (leastF b r t (fullS p) (heelsF r t bs p (fullS p) (2 ^ (fullS p).length))).length = 2 ^ (fullS p).length := by rw [leastF_len, hhl]
    simp only [baseS, eq_self, implies_true, if_true, if_false, reduceIte, Nat.reduceBEq, Nat.reduceEqDiff, Nat.reduceLT, Nat.reduceAdd, reduceCtorEq, tyInt, tdInt, tyInts, tdInts, tyHull, tdHull, tyBoxes, tdBoxes, c_spec_PlanValid, c_spec_l9Slots, c_spec_l9Heels, c_spec_l9Least, c_spec_l9Next, decide_false, room, Nat.reduceLeDiff, Nat.zero_le, storeAV, rowQ, ownInts, FT.of, FT.setf, elems, appAV_I, appI, srcI, ownI, anyI, sameR, appAV_P, appP, srcP, ownP, anyP, Int.toNat_natCast, Int.one_mul, maxAV]
    repeat (refine And.intro ?_ ?_; focus (first | exact ordP (by kernel_rfl) | with_reducible exact rfl | assumption | trivial | (simp only [inR]; omega) | omega | exact ⟨by omega, by omega⟩ | exact ⟨by omega, by omega, by omega⟩ | exact ⟨⟨hbs, hpl⟩, hin, hs7⟩ | exact ⟨hs7, hhl⟩ | exact ⟨hs7, hx.1, hk.1⟩ | exact ⟨hs7, hx.1, by omega, by omega⟩ | exact hid | ((try simp only [decide_eq_true_eq, Bool.and_eq_true, ne_eq, decide_not, Bool.not_eq_true', Bool.not_eq_false', Bool.or_eq_false_iff, Bool.not_not, decide_eq_false_iff_not]); (try intro hh); (repeat' apply And.intro) <;> (first | omega | (simp only [inR]; omega) | assumption | exact ⟨⟨hbs, hpl⟩, hin, hs7⟩ | exact ⟨hs7, hhl⟩ | exact ⟨hs7, hx.1, hk.1⟩ | exact ⟨hs7, hx.1, by omega, by omega⟩ | exact hid | exact hh.1 | exact hh.2 | exact hh.2.1 | exact hh.2.2 | exact hh.1.1 | exact hh.1.2 | (intro hq; exact ⟨hh, hq⟩) | (intro hq; exact ⟨hh.1, hq⟩) | (simp_all; done)))))
    refine hK10 _ ?_
    clear hK10
    refine W_seq (fun K11 hK11 => ?_)
    refine W_region hT hG [] [3, 8, 9, 10, 11, 12, 13] ?_
    rw [hnt]
    simp only [baseS, eq_self, implies_true, if_true, if_false, reduceIte, Nat.reduceBEq, Nat.reduceEqDiff, Nat.reduceLT, Nat.reduceAdd, reduceCtorEq, tyInt, tdInt, tyInts, tdInts, tyHull, tdHull, tyBoxes, tdBoxes, c_spec_PlanValid, c_spec_l9Slots, c_spec_l9Heels, c_spec_l9Least, c_spec_l9Next, decide_false, room, Nat.reduceLeDiff, Nat.zero_le, storeAV, rowQ, ownInts, FT.of, FT.setf, elems, appAV_I, appI, srcI, ownI, anyI, sameR, appAV_P, appP, srcP, ownP, anyP, Int.toNat_natCast, Int.one_mul, maxAV]
    repeat (refine And.intro ?_ ?_; focus (first | exact ordP (by kernel_rfl) | with_reducible exact rfl | assumption | trivial | (simp only [inR]; omega) | omega | exact ⟨by omega, by omega⟩ | exact ⟨by omega, by omega, by omega⟩ | exact ⟨⟨hbs, hpl⟩, hin, hs7⟩ | exact ⟨hs7, hhl⟩ | exact ⟨hs7, hx.1, hk.1⟩ | exact ⟨hs7, hx.1, by omega, by omega⟩ | exact hid | ((try simp only [decide_eq_true_eq, Bool.and_eq_true, ne_eq, decide_not, Bool.not_eq_true', Bool.not_eq_false', Bool.or_eq_false_iff, Bool.not_not, decide_eq_false_iff_not]); (try intro hh); (repeat' apply And.intro) <;> (first | omega | (simp only [inR]; omega) | assumption | exact ⟨⟨hbs, hpl⟩, hin, hs7⟩ | exact ⟨hs7, hhl⟩ | exact ⟨hs7, hx.1, hk.1⟩ | exact ⟨hs7, hx.1, by omega, by omega⟩ | exact hid | exact hh.1 | exact hh.2 | exact hh.2.1 | exact hh.2.2 | exact hh.1.1 | exact hh.1.2 | (intro hq; exact ⟨hh, hq⟩) | (intro hq; exact ⟨hh.1, hq⟩) | (simp_all; done)))))
    refine hK11 _ ?_
    clear hK11
    refine W_seq (fun K12 hK12 => ?_)
    refine W_block ?_
    refine W_loop (α := Int × List Int × Nat) [(3, .as), (8, .own 3 .i64), (9, .fz .i64), (10, .fz .i64), (11, .fz .i64), (12, .as), (13, .as)] (fun x => ⟨[(3, .rp [.int b, .int r, .int t]), (8, .sl 8), (9, .rs .i64 (fullS p)), (10, .rs .i64 (hsR r t bs p)), (11, .rs .i64 (lsR b r t bs p)), (12, .int ((lsR b r t bs p).getD 0 0)), (13, .int x.1)], [(8, some (.sl 3 .i64 x.2.1))], 85⟩) (fun x => (0 ≤ x.1 ∧ x.1 ≤ 2 ^ (fullS p).length - 1) ∧ (lsR b r t bs p).getD x.1.toNat 0 ≤ ((lsR b r t bs p).getD 0 0) ∧ x.2.1 ++ grF b r t (fullS p) (hsR r t bs p) (lsR b r t bs p) ((lsR b r t bs p).getD 0 0) x.2.2 x.1 = grF b r t (fullS p) (hsR r t bs p) (lsR b r t bs p) ((lsR b r t bs p).getD 0 0) (2 ^ (fullS p).length) 0 ∧ (2 ^ (fullS p).length ≤ (x.2.2 : Int) + x.1 ∧ (x.2.1.length : Int) ≤ x.1)) (fun x => (2 ^ (fullS p).length - x.1).toNat) (0, [], 2 ^ (fullS p).length) ?_ ?_ ?_
    · (try simp only [hnt, hnp]); rfl
    · exact ⟨⟨by omega, by dsimp only; omega⟩, Int.le_refl _, rfl, ⟨by dsimp only; omega, by simp⟩⟩
    rintro ⟨x, out, f⟩ ⟨hx, hw, hg, hf⟩
    dsimp only at hx hw hg hf ⊢
    have hhl2 : (hsR r t bs p).length = 2 ^ (fullS p).length := hhl
    have hll2 : (lsR b r t bs p).length = 2 ^ (fullS p).length := hll
    have hex := fun h => @cnd_ex b r t bs p hs7 ((lsR b r t bs p).getD 0 0) x hx.1 h hw
    refine W_seq (fun K14 hK14 => ?_)
    refine W_seq (fun K15 hK15 => ?_)
    refine W_region hT hG [] [3, 8, 9, 10, 11, 12, 13, 45] ?_
    rw [hnt]
    simp only [baseS, eq_self, implies_true, if_true, if_false, reduceIte, Nat.reduceBEq, Nat.reduceEqDiff, Nat.reduceLT, Nat.reduceAdd, reduceCtorEq, tyInt, tdInt, tyInts, tdInts, tyHull, tdHull, tyBoxes, tdBoxes, c_spec_PlanValid, c_spec_l9Slots, c_spec_l9Heels, c_spec_l9Least, c_spec_l9Next, decide_false, room, Nat.reduceLeDiff, Nat.zero_le, storeAV, rowQ, ownInts, FT.of, FT.setf, elems, appAV_I, appI, srcI, ownI, anyI, sameR, appAV_P, appP, srcP, ownP, anyP, Int.toNat_natCast, Int.one_mul, maxAV]
    repeat (refine And.intro ?_ ?_; focus (first | exact ordP (by kernel_rfl) | with_reducible exact rfl | assumption | trivial | (simp only [inR]; omega) | omega | exact ⟨by omega, by omega⟩ | exact ⟨by omega, by omega, by omega⟩ | exact ⟨⟨hbs, hpl⟩, hin, hs7⟩ | exact ⟨hs7, hhl⟩ | exact ⟨hs7, hx.1, hk.1⟩ | exact ⟨hs7, hx.1, by omega, by omega⟩ | exact hid | ((try simp only [decide_eq_true_eq, Bool.and_eq_true, ne_eq, decide_not, Bool.not_eq_true', Bool.not_eq_false', Bool.or_eq_false_iff, Bool.not_not, decide_eq_false_iff_not]); (try intro hh); (repeat' apply And.intro) <;> (first | omega | (simp only [inR]; omega) | assumption | exact ⟨⟨hbs, hpl⟩, hin, hs7⟩ | exact ⟨hs7, hhl⟩ | exact ⟨hs7, hx.1, hk.1⟩ | exact ⟨hs7, hx.1, by omega, by omega⟩ | exact hid | exact hh.1 | exact hh.2 | exact hh.2.1 | exact hh.2.2 | exact hh.1.1 | exact hh.1.2 | (intro hq; exact ⟨hh, hq⟩) | (intro hq; exact ⟨hh.1, hq⟩) | (simp_all; done)))))
    refine hK15 _ ?_
    clear hK15
    refine W_cond (b := _) rfl (fun hc16 => ?_) (fun hc16 => ?_)
    · try simp only [decide_eq_true_eq, decide_eq_false_iff_not, ne_eq, Decidable.not_not, Bool.not_eq_true', Bool.not_eq_false', Bool.or_eq_true, Bool.and_eq_true, Bool.or_eq_false_iff, Bool.and_eq_false_iff] at hc16
      refine W_skip ?_
      simp only [thenQ, blockQ, loopQ, reduceIte, Nat.reduceEqDiff]
      refine hK14 _ ?_
      clear hK14
      refine W_block ?_
      refine W_seq (fun K17 hK17 => ?_)
      refine W_region hT hG [] [3, 8, 9, 10, 11, 12, 13, 14] ?_
      rw [hnt]
      simp only [baseS, eq_self, implies_true, if_true, if_false, reduceIte, Nat.reduceBEq, Nat.reduceEqDiff, Nat.reduceLT, Nat.reduceAdd, reduceCtorEq, tyInt, tdInt, tyInts, tdInts, tyHull, tdHull, tyBoxes, tdBoxes, c_spec_PlanValid, c_spec_l9Slots, c_spec_l9Heels, c_spec_l9Least, c_spec_l9Next, decide_false, room, Nat.reduceLeDiff, Nat.zero_le, storeAV, rowQ, ownInts, FT.of, FT.setf, elems, appAV_I, appI, srcI, ownI, anyI, sameR, appAV_P, appP, srcP, ownP, anyP, Int.toNat_natCast, Int.one_mul, maxAV]
      repeat (refine And.intro ?_ ?_; focus (first | exact ordP (by kernel_rfl) | with_reducible exact rfl | assumption | trivial | (simp only [inR]; omega) | omega | exact ⟨by omega, by omega⟩ | exact ⟨by omega, by omega, by omega⟩ | exact ⟨⟨hbs, hpl⟩, hin, hs7⟩ | exact ⟨hs7, hhl⟩ | exact ⟨hs7, hx.1, hk.1⟩ | exact ⟨hs7, hx.1, by omega, by omega⟩ | exact hid | ((try simp only [decide_eq_true_eq, Bool.and_eq_true, ne_eq, decide_not, Bool.not_eq_true', Bool.not_eq_false', Bool.or_eq_false_iff, Bool.not_not, decide_eq_false_iff_not]); (try intro hh); (repeat' apply And.intro) <;> (first | omega | (simp only [inR]; omega) | assumption | exact ⟨⟨hbs, hpl⟩, hin, hs7⟩ | exact ⟨hs7, hhl⟩ | exact ⟨hs7, hx.1, hk.1⟩ | exact ⟨hs7, hx.1, by omega, by omega⟩ | exact hid | exact hh.1 | exact hh.2 | exact hh.2.1 | exact hh.2.2 | exact hh.1.1 | exact hh.1.2 | (intro hq; exact ⟨hh, hq⟩) | (intro hq; exact ⟨hh.1, hq⟩) | (simp_all; done)))))
      refine hK17 _ ?_
      clear hK17
      refine W_seq (fun K18 hK18 => ?_)
      refine W_block ?_
      refine W_loop (α := Int) [(3, .as), (8, .own 3 .i64), (9, .as), (10, .as), (11, .as), (12, .as), (13, .as), (14, .as)] (fun k => ⟨[(3, .rp [.int b, .int r, .int t]), (8, .sl 8), (9, .rs .i64 (fullS p)), (10, .rs .i64 (hsR r t bs p)), (11, .rs .i64 (lsR b r t bs p)), (12, .int ((lsR b r t bs p).getD 0 0)), (13, .int x), (14, .int k)], [(8, some (.sl 3 .i64 out))], 85⟩) (fun k => (0 ≤ k ∧ k < ((fullS p).length : Int)) ∧ ∀ j : Nat, (j : Int) < k → cndB b r t (fullS p) (hsR r t bs p) (lsR b r t bs p) ((lsR b r t bs p).getD 0 0) x j = false) (fun k => ((fullS p).length - k).toNat) 0 ?_ ?_ ?_
      · (try simp only [hnt, hnp]); rfl
      · exact ⟨⟨by omega, by omega⟩, fun j hj => by omega⟩
      rintro k ⟨hk, hm⟩
      have hpk0 := two_pow_le (n := k.toNat) (by omega)
      have hid0 := fun h => @next_idx b r t (fullS p) hs7 x k hk.1 hk.2 hx.1 (by omega) h
      refine W_seq (fun K20 hK20 => ?_)
      refine W_seq (fun K21 hK21 => ?_)
      refine W_region_draw hT hG (by rw [hP]; exact draws_ok) [] [3, 8, 9, 10, 11, 12, 13, 14, 70] ?_
      rw [hnt]
      simp only [baseS, eq_self, implies_true, if_true, if_false, reduceIte, Nat.reduceBEq, Nat.reduceEqDiff, Nat.reduceLT, Nat.reduceAdd, reduceCtorEq, tyInt, tdInt, tyInts, tdInts, tyHull, tdHull, tyBoxes, tdBoxes, c_spec_PlanValid, c_spec_l9Slots, c_spec_l9Heels, c_spec_l9Least, c_spec_l9Next, decide_false, room, Nat.reduceLeDiff, Nat.zero_le, storeAV, rowQ, ownInts, FT.of, FT.setf, elems, appAV_I, appI, srcI, ownI, anyI, sameR, appAV_P, appP, srcP, ownP, anyP, Int.toNat_natCast, Int.one_mul, maxAV]
      repeat (refine And.intro ?_ ?_; focus (first | exact ordP (by kernel_rfl) | with_reducible exact rfl | assumption | trivial | (simp only [inR]; omega) | omega | exact ⟨by omega, by omega⟩ | exact ⟨by omega, by omega, by omega⟩ | exact ⟨⟨hbs, hpl⟩, hin, hs7⟩ | exact ⟨hs7, hhl⟩ | exact ⟨hs7, hx.1, hk.1⟩ | exact ⟨hs7, hx.1, by omega, by omega⟩ | exact hid | ((try simp only [decide_eq_true_eq, Bool.and_eq_true, ne_eq, decide_not, Bool.not_eq_true', Bool.not_eq_false', Bool.or_eq_false_iff, Bool.not_not, decide_eq_false_iff_not]); (try intro hh); (repeat' apply And.intro) <;> (first | omega | (simp only [inR]; omega) | assumption | exact ⟨⟨hbs, hpl⟩, hin, hs7⟩ | exact ⟨hs7, hhl⟩ | exact ⟨hs7, hx.1, hk.1⟩ | exact ⟨hs7, hx.1, by omega, by omega⟩ | exact hid | exact hh.1 | exact hh.2 | exact hh.2.1 | exact hh.2.2 | exact hh.1.1 | exact hh.1.2 | (intro hq; exact ⟨hh, hq⟩) | (intro hq; exact ⟨hh.1, hq⟩) | (simp_all; done)))))
      refine hK21 _ ?_
      clear hK21
      refine W_cond (b := _) rfl (fun hc22 => ?_) (fun hc22 => ?_)
      · try simp only [decide_eq_true_eq, decide_eq_false_iff_not, ne_eq, Decidable.not_not, Bool.not_eq_true', Bool.not_eq_false', Bool.or_eq_true, Bool.and_eq_true, Bool.or_eq_false_iff, Bool.and_eq_false_iff] at hc22
        refine W_skip ?_
        simp only [thenQ, blockQ, loopQ, reduceIte, Nat.reduceEqDiff]
        refine hK20 _ ?_
        clear hK20
        refine W_block ?_
        refine W_region hT hG [] [3, 8, 9, 10, 11, 12, 13, 14] ?_
        rw [hnt]
        simp only [baseS, eq_self, implies_true, if_true, if_false, reduceIte, Nat.reduceBEq, Nat.reduceEqDiff, Nat.reduceLT, Nat.reduceAdd, reduceCtorEq, tyInt, tdInt, tyInts, tdInts, tyHull, tdHull, tyBoxes, tdBoxes, c_spec_PlanValid, c_spec_l9Slots, c_spec_l9Heels, c_spec_l9Least, c_spec_l9Next, decide_false, room, Nat.reduceLeDiff, Nat.zero_le, storeAV, rowQ, ownInts, FT.of, FT.setf, elems, appAV_I, appI, srcI, ownI, anyI, sameR, appAV_P, appP, srcP, ownP, anyP, Int.toNat_natCast, Int.one_mul, maxAV]
        repeat (refine And.intro ?_ ?_; focus (first | exact ordP (by kernel_rfl) | with_reducible exact rfl | assumption | trivial | (simp only [inR]; omega) | omega | exact ⟨by omega, by omega⟩ | exact ⟨by omega, by omega, by omega⟩ | exact ⟨⟨hbs, hpl⟩, hin, hs7⟩ | exact ⟨hs7, hhl⟩ | exact ⟨hs7, hx.1, hk.1⟩ | exact ⟨hs7, hx.1, by omega, by omega⟩ | exact hid | ((try simp only [decide_eq_true_eq, Bool.and_eq_true, ne_eq, decide_not, Bool.not_eq_true', Bool.not_eq_false', Bool.or_eq_false_iff, Bool.not_not, decide_eq_false_iff_not]); (try intro hh); (repeat' apply And.intro) <;> (first | omega | (simp only [inR]; omega) | assumption | exact ⟨⟨hbs, hpl⟩, hin, hs7⟩ | exact ⟨hs7, hhl⟩ | exact ⟨hs7, hx.1, hk.1⟩ | exact ⟨hs7, hx.1, by omega, by omega⟩ | exact hid | exact hh.1 | exact hh.2 | exact hh.2.1 | exact hh.2.2 | exact hh.1.1 | exact hh.1.2 | (intro hq; exact ⟨hh, hq⟩) | (intro hq; exact ⟨hh.1, hq⟩) | (simp_all; done)))))
        have hxl : x < 2 ^ (fullS p).length - 1 := by
          have h1 := hc16
          rw [← hpn.2.2, ← hhl2]
          exact h1
        have hcs := cnd_step hk.1 hm hc22
        obtain ⟨k2, hk2, hc2⟩ := hex hxl
        have hlt : k + 1 ≤ (k2 : Int) := Int.not_lt.1 fun h => by rw [hcs k2 h] at hc2; cases hc2
        refine ⟨k + 1, (by (try simp only [hnt, hnp]); rfl), ⟨⟨by omega, by omega⟩, hcs⟩, by dsimp only; omega⟩
      · try simp only [decide_eq_true_eq, decide_eq_false_iff_not, ne_eq, Decidable.not_not, Bool.not_eq_true', Bool.not_eq_false', Bool.or_eq_true, Bool.and_eq_true, Bool.or_eq_false_iff, Bool.and_eq_false_iff] at hc22
        refine W_exit ?_
        simp only [thenQ, blockQ, loopQ, reduceIte, Nat.reduceEqDiff]
        refine hK18 _ ?_
        clear hK18
        refine W_seq (fun K23 hK23 => ?_)
        refine W_region hT hG [] [3, 8, 9, 10, 11, 12, 13, 14] ?_
        rw [hnt]
        simp only [baseS, eq_self, implies_true, if_true, if_false, reduceIte, Nat.reduceBEq, Nat.reduceEqDiff, Nat.reduceLT, Nat.reduceAdd, reduceCtorEq, tyInt, tdInt, tyInts, tdInts, tyHull, tdHull, tyBoxes, tdBoxes, c_spec_PlanValid, c_spec_l9Slots, c_spec_l9Heels, c_spec_l9Least, c_spec_l9Next, decide_false, room, Nat.reduceLeDiff, Nat.zero_le, storeAV, rowQ, ownInts, FT.of, FT.setf, elems, appAV_I, appI, srcI, ownI, anyI, sameR, appAV_P, appP, srcP, ownP, anyP, Int.toNat_natCast, Int.one_mul, maxAV]
        repeat (refine And.intro ?_ ?_; focus (first | exact ordP (by kernel_rfl) | with_reducible exact rfl | assumption | trivial | (simp only [inR]; omega) | omega | exact ⟨by omega, by omega⟩ | exact ⟨by omega, by omega, by omega⟩ | exact ⟨⟨hbs, hpl⟩, hin, hs7⟩ | exact ⟨hs7, hhl⟩ | exact ⟨hs7, hx.1, hk.1⟩ | exact ⟨hs7, hx.1, by omega, by omega⟩ | exact hid | ((try simp only [decide_eq_true_eq, Bool.and_eq_true, ne_eq, decide_not, Bool.not_eq_true', Bool.not_eq_false', Bool.or_eq_false_iff, Bool.not_not, decide_eq_false_iff_not]); (try intro hh); (repeat' apply And.intro) <;> (first | omega | (simp only [inR]; omega) | assumption | exact ⟨⟨hbs, hpl⟩, hin, hs7⟩ | exact ⟨hs7, hhl⟩ | exact ⟨hs7, hx.1, hk.1⟩ | exact ⟨hs7, hx.1, by omega, by omega⟩ | exact hid | exact hh.1 | exact hh.2 | exact hh.2.1 | exact hh.2.2 | exact hh.1.1 | exact hh.1.2 | (intro hq; exact ⟨hh, hq⟩) | (intro hq; exact ⟨hh.1, hq⟩) | (simp_all; done)))))
        refine hK23 _ ?_
        clear hK23
        refine W_region hT hG [] [3, 8, 9, 10, 11, 12, 13] ?_
        rw [hnt]
        simp only [baseS, eq_self, implies_true, if_true, if_false, reduceIte, Nat.reduceBEq, Nat.reduceEqDiff, Nat.reduceLT, Nat.reduceAdd, reduceCtorEq, tyInt, tdInt, tyInts, tdInts, tyHull, tdHull, tyBoxes, tdBoxes, c_spec_PlanValid, c_spec_l9Slots, c_spec_l9Heels, c_spec_l9Least, c_spec_l9Next, decide_false, room, Nat.reduceLeDiff, Nat.zero_le, storeAV, rowQ, ownInts, FT.of, FT.setf, elems, appAV_I, appI, srcI, ownI, anyI, sameR, appAV_P, appP, srcP, ownP, anyP, Int.toNat_natCast, Int.one_mul, maxAV]
        repeat (refine And.intro ?_ ?_; focus (first | exact ordP (by kernel_rfl) | with_reducible exact rfl | assumption | trivial | (simp only [inR]; omega) | omega | exact ⟨by omega, by omega⟩ | exact ⟨by omega, by omega, by omega⟩ | exact ⟨⟨hbs, hpl⟩, hin, hs7⟩ | exact ⟨hs7, hhl⟩ | exact ⟨hs7, hx.1, hk.1⟩ | exact ⟨hs7, hx.1, by omega, by omega⟩ | exact hid | ((try simp only [decide_eq_true_eq, Bool.and_eq_true, ne_eq, decide_not, Bool.not_eq_true', Bool.not_eq_false', Bool.or_eq_false_iff, Bool.not_not, decide_eq_false_iff_not]); (try intro hh); (repeat' apply And.intro) <;> (first | omega | (simp only [inR]; omega) | assumption | exact ⟨⟨hbs, hpl⟩, hin, hs7⟩ | exact ⟨hs7, hhl⟩ | exact ⟨hs7, hx.1, hk.1⟩ | exact ⟨hs7, hx.1, by omega, by omega⟩ | exact hid | exact hh.1 | exact hh.2 | exact hh.2.1 | exact hh.2.2 | exact hh.1.1 | exact hh.1.2 | (intro hq; exact ⟨hh, hq⟩) | (intro hq; exact ⟨hh.1, hq⟩) | (simp_all; done)))))
        have hxl : x < 2 ^ (fullS p).length - 1 := by
          have h1 := hc16
          rw [← hpn.2.2, ← hhl2]
          exact h1
        have hnx := hc22.1
        have hcd : cndB b r t (fullS p) (hsR r t bs p) (lsR b r t bs p) ((lsR b r t bs p).getD 0 0) x k.toNat = true := by
          rw [cndB, hc22.1, decide_eq_true (by have := hc22.2; omega)]
          rfl
        have hst := grF_step (f := f) (w := ((lsR b r t bs p).getD 0 0)) (by omega) hxl hk.1 hk.2 hcd hm
        have hpk := two_pow_le (n := k.toNat) (by omega)
        have hid1 := next_idx hs7 hk.1 hk.2 hx.1 (by omega) hnx
        refine ⟨(x + 2 ^ k.toNat, out ++ [(fullS p).getD k.toNat 0], f - 1), (by (try simp only [hnt, hnp]); rfl), ⟨⟨by dsimp only; omega, by dsimp only; omega⟩, by dsimp only; omega, by dsimp only; rw [← hg, hst]; simp, ⟨by dsimp only; omega, by dsimp only; rw [List.length_append, List.length_singleton]; omega⟩⟩, by dsimp only; omega⟩
    · try simp only [decide_eq_true_eq, decide_eq_false_iff_not, ne_eq, Decidable.not_not, Bool.not_eq_true', Bool.not_eq_false', Bool.or_eq_true, Bool.and_eq_true, Bool.or_eq_false_iff, Bool.and_eq_false_iff] at hc16
      refine W_exit ?_
      simp only [thenQ, blockQ, loopQ, reduceIte, Nat.reduceEqDiff]
      refine hK12 _ ?_
      clear hK12
      refine W_seq (fun K24 hK24 => ?_)
      refine W_region hT hG [] [6, 7] ?_
      rw [hnt]
      simp only [baseS, eq_self, implies_true, if_true, if_false, reduceIte, Nat.reduceBEq, Nat.reduceEqDiff, Nat.reduceLT, Nat.reduceAdd, reduceCtorEq, tyInt, tdInt, tyInts, tdInts, tyHull, tdHull, tyBoxes, tdBoxes, c_spec_PlanValid, c_spec_l9Slots, c_spec_l9Heels, c_spec_l9Least, c_spec_l9Next, decide_false, room, Nat.reduceLeDiff, Nat.zero_le, storeAV, rowQ, ownInts, FT.of, FT.setf, elems, appAV_I, appI, srcI, ownI, anyI, sameR, appAV_P, appP, srcP, ownP, anyP, Int.toNat_natCast, Int.one_mul, maxAV]
      repeat (refine And.intro ?_ ?_; focus (first | exact ordP (by kernel_rfl) | with_reducible exact rfl | assumption | trivial | (simp only [inR]; omega) | omega | exact ⟨by omega, by omega⟩ | exact ⟨by omega, by omega, by omega⟩ | exact ⟨⟨hbs, hpl⟩, hin, hs7⟩ | exact ⟨hs7, hhl⟩ | exact ⟨hs7, hx.1, hk.1⟩ | exact ⟨hs7, hx.1, by omega, by omega⟩ | exact hid | ((try simp only [decide_eq_true_eq, Bool.and_eq_true, ne_eq, decide_not, Bool.not_eq_true', Bool.not_eq_false', Bool.or_eq_false_iff, Bool.not_not, decide_eq_false_iff_not]); (try intro hh); (repeat' apply And.intro) <;> (first | omega | (simp only [inR]; omega) | assumption | exact ⟨⟨hbs, hpl⟩, hin, hs7⟩ | exact ⟨hs7, hhl⟩ | exact ⟨hs7, hx.1, hk.1⟩ | exact ⟨hs7, hx.1, by omega, by omega⟩ | exact hid | exact hh.1 | exact hh.2 | exact hh.2.1 | exact hh.2.2 | exact hh.1.1 | exact hh.1.2 | (intro hq; exact ⟨hh, hq⟩) | (intro hq; exact ⟨hh.1, hq⟩) | (simp_all; done)))))
      refine hK24 _ ?_
      clear hK24
      refine W_re [(6, .own 3 .i64), (7, .as)] (by (try simp only [hnt, hnp]); rfl) ?_
      refine W_ret ?_
      simp only [thenQ, blockQ, loopQ, retQ, reduceIte, Nat.reduceEqDiff]
      refine ret1sb 6 rfl rfl rfl ?_ ?_
      all_goals (
        first
        | exact (bestS_no hc16).1
        | exact (bestS_no hc16).2
        | exact (bestS_yes hpl hs7 (by rw [← hpn.2.2, ← hhl2]; exact hc16) hg).1
        | exact (bestS_yes hpl hs7 (by rw [← hpn.2.2, ← hhl2]; exact hc16) hg).2)

end Go.Proofs.Ytpiaeckkjdcifaa
