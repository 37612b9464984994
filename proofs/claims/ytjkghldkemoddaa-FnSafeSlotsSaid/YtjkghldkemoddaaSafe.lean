/- Walks over safe slots. No condition. -/
import Derived.Test.YtjkghldkemoddaaNear
import Derived.Test.YtjkghldkemoddaaNext
namespace Go.Proofs.Ytjkghldkemoddaa
open Go
set_option linter.unusedVariables false
set_option linter.unusedSimpArgs false

/-- A slot whose box would be too near to that in slot j. -/
def nearTo (r t : Int) (bs : List BoxD) (p : List Int) (c s : Int) (j : Nat) : Bool := decide (p.getD j 0 ≠ 0) && decide (apD r t s j < need c (cAt bs (p.getD j 0)))
def safeS (r t : Int) (bs : List BoxD) (p : List Int) (c s : Int) : Bool := !(List.range p.length).any (nearTo r t bs p c s)
def safeR (b r t : Int) (bs : List BoxD) (p : List Int) (c : Int) : List Int := if 0 ≤ c ∧ c ≤ 3 then (nextR b r t bs p).filter (safeS r t bs p c) else []
theorem filter_step {P : Int → Bool} {l : List Int} {i : Int} (h0 : 0 ≤ i) (h : i < l.length) : (l.take (i + 1).toNat).filter P = (l.take i.toNat).filter P ++ if P (l.getD i.toNat 0) = true then [l.getD i.toNat 0] else [] := by
  have ha : i.toNat < l.length := by omega
  have e : (i + 1).toNat = i.toNat + 1 := by omega
  have e2 : l.getD i.toNat 0 = l[i.toNat] := by rw [List.getD_eq_getElem?_getD, List.getElem?_eq_getElem ha]; rfl
  rw [e, List.take_add_one, List.getElem?_eq_getElem ha, Option.toList_some, List.filter_append, e2]
  by_cases hp : P l[i.toNat] = true <;> simp [hp]
theorem safe_full {r t : Int} {bs : List BoxD} {p : List Int} {c s : Int} : (List.range p.length).any (nearTo r t bs p c s) = (fullS p).any fun j => decide (apD r t s j < need c (cAt bs (p.getD j.toNat 0))) := by
  rw [Bool.eq_iff_iff, List.any_eq_true, List.any_eq_true]
  constructor
  · rintro ⟨j, hj, h⟩
    simp only [nearTo, Bool.and_eq_true, decide_eq_true_eq] at h
    refine ⟨(j : Int), ?_, ?_⟩
    · rw [fullS, selTo_mem]; exact ⟨j, List.mem_range.1 hj, rfl, decide_eq_true h.1⟩
    · rw [decide_eq_true_eq, Int.toNat_natCast]; exact h.2
  · rintro ⟨x, hx, h⟩
    rw [fullS, selTo_mem] at hx
    obtain ⟨k, h1, h2, h3⟩ := hx
    subst h2
    rw [decide_eq_true_eq, Int.toNat_natCast] at h
    refine ⟨k, List.mem_range.2 h1, ?_⟩
    simp only [nearTo, Bool.and_eq_true, decide_eq_true_eq]
    exact ⟨of_decide_eq_true h3, h⟩
theorem safeR_len (b r t : Int) (bs : List BoxD) (p : List Int) (c : Int) : (safeR b r t bs p c).length ≤ p.length := by
  unfold safeR; split
  · exact Nat.le_trans (List.length_filter_le _ _) (nextR_len b r t bs p)
  · simp
theorem nextR_get {b r t : Int} {bs : List BoxD} {p : List Int} {i : Int} (h0 : 0 ≤ i) (h : i < (nextR b r t bs p).length) : planB b r t bs p = true ∧ 0 ≤ (nextR b r t bs p).getD i.toNat 0 ∧ (nextR b r t bs p).getD i.toNat 0 < p.length := by
  cases hb : planB b r t bs p with
  | false => rw [nextR, hb] at h; simp at h; omega
  | true =>
    refine ⟨rfl, ?_⟩
    have ha : i.toNat < (nextR b r t bs p).length := by omega
    have e2 : (nextR b r t bs p).getD i.toNat 0 = (nextR b r t bs p)[i.toNat] := by rw [List.getD_eq_getElem?_getD, List.getElem?_eq_getElem ha]; rfl
    have hm := List.getElem_mem ha
    rw [← e2] at hm
    have hm2 : (nextR b r t bs p).getD i.toNat 0 ∈ selTo (nextB t p) p.length := by
      have : nextR b r t bs p = selTo (nextB t p) p.length := by rw [nextR, if_pos hb]
      rw [this] at hm ⊢; exact hm
    obtain ⟨k, h1, h2, _⟩ := selTo_mem.1 hm2
    omega

theorem safe_step {bs : List BoxD} {n d c : Int} (G : Bool) : (!G && (decide (n = 0) || decide (need c (c0 bs n) ≤ d))) = !(G || (decide (n ≠ 0) && decide (d < need c (cAt bs n)))) := by
  by_cases h0 : n = 0
  · cases G <;> simp [h0]
  · have e : c0 bs n = cAt bs n := by rw [c0, if_neg h0]
    rw [e]
    by_cases h1 : d < need c (cAt bs n)
    · have h2 : ¬ need c (cAt bs n) ≤ d := by omega
      cases G <;> simp [h0, h1, h2]
    · have h2 : need c (cAt bs n) ≤ d := by omega
      cases G <;> simp [h0, h1, h2]
/-- The first place where it holds, from k on. -/
def firstF (P : Int → Bool) : List Int → Int → Int
  | [], _ => -1
  | x :: xs, k => if P x = true then k else firstF P xs (k + 1)
theorem firstF_step {P : Int → Bool} {a : List Int} {i k : Int} (h0 : 0 ≤ i) (h : i < a.length) : firstF P (a.drop i.toNat) k = if P (a.getD i.toNat 0) = true then k else firstF P (a.drop (i + 1).toNat) (k + 1) := by
  have ha : i.toNat < a.length := by omega
  have e : (i + 1).toNat = i.toNat + 1 := by omega
  rw [List.drop_eq_getElem_cons ha, firstF, e, List.getD_eq_getElem?_getD, List.getElem?_eq_getElem ha]
  rfl
theorem firstF_end {P : Int → Bool} {a : List Int} {i k : Int} (h : ¬ i < a.length) : firstF P (a.drop i.toNat) k = -1 := by
  rw [List.drop_eq_nil_of_le (by omega)]; rfl
theorem firstF_any (P : Int → Bool) : ∀ (a : List Int) (k : Int), 0 ≤ k → decide (0 ≤ firstF P a k) = a.any P
  | [], k, h => by simp [firstF]
  | x :: xs, k, h => by
    rw [firstF, List.any_cons]
    by_cases hp : P x = true
    · rw [if_pos hp, hp, decide_eq_true h]; rfl
    · rw [if_neg hp, firstF_any P xs (k + 1) (by omega), eq_false_of_ne_true hp, Bool.false_or]

def c_impl_SafeSlots_1 : Ctr where
  modes := [.v .p, .v .p, .v .p, .v .p, .v .p, .v .p]
  al := false
  run := fun xs os => match xs, os with
    | [.int j, .rp [.int b, .int r, .int t], .rp [.int s], .rp [.int c], .rp [.rs .box bs], .rp [.rs .i64 p]], [] => some ⟨bs.length ≤ 9223372036854775807 ∧ (0 ≤ j ∧ j < p.length) ∧ 0 ≤ findF bs (p.getD (j).toNat 0) 0 ∧ (inS b r t s && inS b r t (j)) = true, .bool (decide (apD r t s j < need c (cAt bs (p.getD j.toNat 0)))), [], []⟩
    | _, _ => none
theorem m_impl_SafeSlots_1 : Meets Try.prog 116 c_impl_SafeSlots_1 := by
  refine meets_of (T := tyT) tyOK Try.func116 (by rfl) rfl (by decide) ?_
  intro args owns R hrun hpre
  simp only [c_impl_SafeSlots_1] at hrun
  split at hrun
  case h_2 => cases hrun
  rename_i j b r t s c bs p
  cases hrun
  try dsimp only at hpre
  refine ⟨_, rfl, fun E hP hnt hnp => ?_⟩
  replace hnt : E.nt = 21 := hnt
  replace hnp : E.np = 6 := hnp
  have hT : ∀ t d, tyT t = some d → TyOK E.P t d := hP ▸ tyOK
  have hG : ∀ f C, Γof [(109, c_impl_apart), (110, c_impl_ApartNeed), (111, c_impl_classAt)] f = some C → Meets E.P f C := hΓof (by rw [hP]; exact ⟨m_impl_apart, m_impl_ApartNeed, m_impl_classAt, trivial⟩)
  try simp only [show Try.f116.ntmps = 21 from rfl]
  have hbs := hpre.1
  have hj := hpre.2.1
  have hf := hpre.2.2.1
  have hin := hpre.2.2.2
  refine W_seq (fun K1 hK1 => ?_)
  refine W_region hT hG [] [0, 1, 2, 3, 4, 5] ?_
  rw [hnt]
  simp only [baseS, eq_self, implies_true, if_true, if_false, reduceIte, Nat.reduceBEq, Nat.reduceEqDiff, Nat.reduceLT, Nat.reduceAdd, reduceCtorEq, tyInt, tdInt, tyHull, tdHull, tyBoxes, tdBoxes, tyInts, tdInts, c_impl_apart, c_impl_ApartNeed, c_impl_classAt]
  repeat (refine And.intro ?_ ?_; focus (first | exact ordP (by kernel_rfl) | with_reducible exact rfl | assumption | trivial | (simp only [inR]; omega) | omega | exact ⟨by omega, by omega⟩ | exact ⟨by omega, by omega, by omega⟩ | exact ⟨by omega, hf⟩ | exact hin | ((try simp only [decide_eq_true_eq, Bool.and_eq_true, ne_eq, decide_not, Bool.not_eq_true', Bool.not_eq_false', Bool.or_eq_false_iff, Bool.not_not, decide_eq_false_iff_not]); (try intro hh); (repeat' apply And.intro) <;> (first | omega | (simp only [inR]; omega) | assumption | exact ⟨by omega, hf⟩ | exact hin | exact hh.1 | exact hh.2 | exact hh.2.1 | exact hh.2.2 | exact hh.1.1 | exact hh.1.2 | (intro hq; exact ⟨hh, hq⟩) | (intro hq; exact ⟨hh.1, hq⟩) | (simp_all; done)))))
  refine hK1 _ ?_
  clear hK1
  refine W_seq (fun K2 hK2 => ?_)
  refine W_region_draw hT hG (by rw [hP]; exact draws_ok) [] [7] ?_
  rw [hnt]
  simp only [baseS, eq_self, implies_true, if_true, if_false, reduceIte, Nat.reduceBEq, Nat.reduceEqDiff, Nat.reduceLT, Nat.reduceAdd, reduceCtorEq, tyInt, tdInt, tyHull, tdHull, tyBoxes, tdBoxes, tyInts, tdInts, c_impl_apart, c_impl_ApartNeed, c_impl_classAt]
  repeat (refine And.intro ?_ ?_; focus (first | exact ordP (by kernel_rfl) | with_reducible exact rfl | assumption | trivial | (simp only [inR]; omega) | omega | exact ⟨by omega, by omega⟩ | exact ⟨by omega, by omega, by omega⟩ | exact ⟨by omega, hf⟩ | exact hin | ((try simp only [decide_eq_true_eq, Bool.and_eq_true, ne_eq, decide_not, Bool.not_eq_true', Bool.not_eq_false', Bool.or_eq_false_iff, Bool.not_not, decide_eq_false_iff_not]); (try intro hh); (repeat' apply And.intro) <;> (first | omega | (simp only [inR]; omega) | assumption | exact ⟨by omega, hf⟩ | exact hin | exact hh.1 | exact hh.2 | exact hh.2.1 | exact hh.2.2 | exact hh.1.1 | exact hh.1.2 | (intro hq; exact ⟨hh, hq⟩) | (intro hq; exact ⟨hh.1, hq⟩) | (simp_all; done)))))
  refine hK2 _ ?_
  clear hK2
  refine W_ret ?_
  simp only [thenQ, blockQ, loopQ, retQ, reduceIte, Nat.reduceEqDiff]
  refine ret0 ?_ rfl rfl (.inr rfl) rfl
  simp only [show Try.f116.results.toList = [ResultVar.tmp 7] from rfl, resAV, resL, look, Nat.reduceEqDiff, reduceIte, tyHull, tdHull, applyUps, noH, isStr, List.length_cons, List.length_nil, Nat.reduceAdd, and_self]
  all_goals (
    first | rfl | (simp_all; done))

def c_slices_IndexFunc_int_int : Ctr where
  modes := [.v (.r .i64), .v .p]
  al := false
  run := fun xs os => match xs, os with
    | [.rs .i64 l, .clo 116 [.rp [.int b, .int r, .int t], .rp [.int s], .rp [.int c], .rp [.rs .box bs], .rp [.rs .i64 p]]], [] => some ⟨l.length ≤ 9223372036854775807 ∧ bs.length ≤ 9223372036854775807 ∧ ∀ i : Int, 0 ≤ i → i < l.length → (0 ≤ l.getD i.toNat 0 ∧ l.getD i.toNat 0 < p.length) ∧ 0 ≤ findF bs (p.getD (l.getD i.toNat 0).toNat 0) 0 ∧ (inS b r t s && inS b r t (l.getD i.toNat 0)) = true, .int (firstF (fun j => decide (apD r t s j < need c (cAt bs (p.getD j.toNat 0)))) l 0), [], []⟩
    | _, _ => none
theorem m_slices_IndexFunc_int_int : Meets Try.prog 134 c_slices_IndexFunc_int_int := by
  refine meets_of (T := tyT) tyOK Try.func134 (by rfl) rfl (by decide) ?_
  intro args owns R hrun hpre
  simp only [c_slices_IndexFunc_int_int] at hrun
  split at hrun
  case h_2 => cases hrun
  rename_i l b r t s c bs p
  cases hrun
  try dsimp only at hpre
  refine ⟨_, rfl, fun E hP hnt hnp => ?_⟩
  replace hnt : E.nt = 19 := hnt
  replace hnp : E.np = 2 := hnp
  have hT : ∀ t d, tyT t = some d → TyOK E.P t d := hP ▸ tyOK
  have hG : ∀ f C, Γof [(116, c_impl_SafeSlots_1)] f = some C → Meets E.P f C := hΓof (by rw [hP]; exact ⟨m_impl_SafeSlots_1, trivial⟩)
  try simp only [show Try.f134.ntmps = 19 from rfl]
  have hl := hpre.1
  have hbs := hpre.2.1
  have hall := hpre.2.2
  refine W_seq (fun K1 hK1 => ?_)
  refine W_region hT hG [] [0, 1] ?_
  rw [hnt]
  simp only [baseS, eq_self, implies_true, if_true, if_false, reduceIte, Nat.reduceBEq, Nat.reduceEqDiff, Nat.reduceLT, Nat.reduceAdd, reduceCtorEq, tyInt, tdInt, tyInts, tdInts, c_impl_SafeSlots_1]
  repeat (refine And.intro ?_ ?_; focus (first | exact ordP (by kernel_rfl) | with_reducible exact rfl | assumption | trivial | (simp only [inR]; omega) | omega | exact ⟨by omega, by omega⟩ | exact ⟨by omega, by omega, by omega⟩ | exact ⟨by omega, hall i hi0 (by assumption)⟩ | ((try simp only [decide_eq_true_eq, Bool.and_eq_true, ne_eq, decide_not, Bool.not_eq_true', Bool.not_eq_false', Bool.or_eq_false_iff, Bool.not_not, decide_eq_false_iff_not]); (try intro hh); (repeat' apply And.intro) <;> (first | omega | (simp only [inR]; omega) | assumption | exact ⟨by omega, hall i hi0 (by assumption)⟩ | exact hh.1 | exact hh.2 | exact hh.2.1 | exact hh.2.2 | exact hh.1.1 | exact hh.1.2 | (intro hq; exact ⟨hh, hq⟩) | (intro hq; exact ⟨hh.1, hq⟩) | (simp_all; done)))))
  refine hK1 _ ?_
  clear hK1
  refine W_seq (fun K2 hK2 => ?_)
  refine W_seq (fun K3 hK3 => ?_)
  refine W_region hT hG [] [0, 1, 7, 8] ?_
  rw [hnt]
  simp only [baseS, eq_self, implies_true, if_true, if_false, reduceIte, Nat.reduceBEq, Nat.reduceEqDiff, Nat.reduceLT, Nat.reduceAdd, reduceCtorEq, tyInt, tdInt, tyInts, tdInts, c_impl_SafeSlots_1]
  repeat (refine And.intro ?_ ?_; focus (first | exact ordP (by kernel_rfl) | with_reducible exact rfl | assumption | trivial | (simp only [inR]; omega) | omega | exact ⟨by omega, by omega⟩ | exact ⟨by omega, by omega, by omega⟩ | exact ⟨by omega, hall i hi0 (by assumption)⟩ | ((try simp only [decide_eq_true_eq, Bool.and_eq_true, ne_eq, decide_not, Bool.not_eq_true', Bool.not_eq_false', Bool.or_eq_false_iff, Bool.not_not, decide_eq_false_iff_not]); (try intro hh); (repeat' apply And.intro) <;> (first | omega | (simp only [inR]; omega) | assumption | exact ⟨by omega, hall i hi0 (by assumption)⟩ | exact hh.1 | exact hh.2 | exact hh.2.1 | exact hh.2.2 | exact hh.1.1 | exact hh.1.2 | (intro hq; exact ⟨hh, hq⟩) | (intro hq; exact ⟨hh.1, hq⟩) | (simp_all; done)))))
  refine hK3 _ ?_
  clear hK3
  refine W_block ?_
  refine W_loop (α := Int) [(0, .as), (1, .as), (7, .as), (8, .as)] (fun i => ⟨[(0, .rs .i64 l), (1, .clo 116 [.rp [.int b, .int r, .int t], .rp [.int s], .rp [.int c], .rp [.rs .box bs], .rp [.rs .i64 p]]), (7, .int l.length), (8, .int i)], [], 19⟩) (fun i => 0 ≤ i ∧ i ≤ l.length ∧ firstF (fun j => decide (apD r t s j < need c (cAt bs (p.getD j.toNat 0)))) (l.drop i.toNat) i = firstF (fun j => decide (apD r t s j < need c (cAt bs (p.getD j.toNat 0)))) l 0) (fun i => (l.length - i).toNat) 0 ?_ ?_ ?_
  · (try simp only [hnt, hnp]); rfl
  · exact ⟨by omega, by omega, by simp⟩
  rintro i ⟨hi0, hi1, hI⟩
  refine W_seq (fun K5 hK5 => ?_)
  refine W_region hT hG [] [0, 1, 7, 8, 9] ?_
  rw [hnt]
  simp only [baseS, eq_self, implies_true, if_true, if_false, reduceIte, Nat.reduceBEq, Nat.reduceEqDiff, Nat.reduceLT, Nat.reduceAdd, reduceCtorEq, tyInt, tdInt, tyInts, tdInts, c_impl_SafeSlots_1]
  repeat (refine And.intro ?_ ?_; focus (first | exact ordP (by kernel_rfl) | with_reducible exact rfl | assumption | trivial | (simp only [inR]; omega) | omega | exact ⟨by omega, by omega⟩ | exact ⟨by omega, by omega, by omega⟩ | exact ⟨by omega, hall i hi0 (by assumption)⟩ | ((try simp only [decide_eq_true_eq, Bool.and_eq_true, ne_eq, decide_not, Bool.not_eq_true', Bool.not_eq_false', Bool.or_eq_false_iff, Bool.not_not, decide_eq_false_iff_not]); (try intro hh); (repeat' apply And.intro) <;> (first | omega | (simp only [inR]; omega) | assumption | exact ⟨by omega, hall i hi0 (by assumption)⟩ | exact hh.1 | exact hh.2 | exact hh.2.1 | exact hh.2.2 | exact hh.1.1 | exact hh.1.2 | (intro hq; exact ⟨hh, hq⟩) | (intro hq; exact ⟨hh.1, hq⟩) | (simp_all; done)))))
  refine hK5 _ ?_
  clear hK5
  refine W_seq (fun K6 hK6 => ?_)
  refine W_cond (b := _) rfl (fun hc7 => ?_) (fun hc7 => ?_)
  · try simp only [decide_eq_true_eq, decide_eq_false_iff_not, ne_eq, Decidable.not_not, Bool.not_eq_true', Bool.not_eq_false', Bool.or_eq_true, Bool.and_eq_true, Bool.or_eq_false_iff, Bool.and_eq_false_iff] at hc7
    refine W_skip ?_
    simp only [thenQ, blockQ, loopQ, reduceIte, Nat.reduceEqDiff]
    refine hK6 _ ?_
    clear hK6
    refine W_seq (fun K8 hK8 => ?_)
    refine W_block ?_
    refine W_seq (fun K9 hK9 => ?_)
    refine W_region hT hG [] [0, 1, 5, 7, 8] ?_
    rw [hnt]
    simp only [baseS, eq_self, implies_true, if_true, if_false, reduceIte, Nat.reduceBEq, Nat.reduceEqDiff, Nat.reduceLT, Nat.reduceAdd, reduceCtorEq, tyInt, tdInt, tyInts, tdInts, c_impl_SafeSlots_1]
    repeat (refine And.intro ?_ ?_; focus (first | exact ordP (by kernel_rfl) | with_reducible exact rfl | assumption | trivial | (simp only [inR]; omega) | omega | exact ⟨by omega, by omega⟩ | exact ⟨by omega, by omega, by omega⟩ | exact ⟨by omega, hall i hi0 (by assumption)⟩ | ((try simp only [decide_eq_true_eq, Bool.and_eq_true, ne_eq, decide_not, Bool.not_eq_true', Bool.not_eq_false', Bool.or_eq_false_iff, Bool.not_not, decide_eq_false_iff_not]); (try intro hh); (repeat' apply And.intro) <;> (first | omega | (simp only [inR]; omega) | assumption | exact ⟨by omega, hall i hi0 (by assumption)⟩ | exact hh.1 | exact hh.2 | exact hh.2.1 | exact hh.2.2 | exact hh.1.1 | exact hh.1.2 | (intro hq; exact ⟨hh, hq⟩) | (intro hq; exact ⟨hh.1, hq⟩) | (simp_all; done)))))
    refine hK9 _ ?_
    clear hK9
    refine W_seq (fun K10 hK10 => ?_)
    refine W_region hT hG [] [0, 1, 5, 7, 8, 16] ?_
    rw [hnt]
    simp only [baseS, eq_self, implies_true, if_true, if_false, reduceIte, Nat.reduceBEq, Nat.reduceEqDiff, Nat.reduceLT, Nat.reduceAdd, reduceCtorEq, tyInt, tdInt, tyInts, tdInts, c_impl_SafeSlots_1]
    repeat (refine And.intro ?_ ?_; focus (first | exact ordP (by kernel_rfl) | with_reducible exact rfl | assumption | trivial | (simp only [inR]; omega) | omega | exact ⟨by omega, by omega⟩ | exact ⟨by omega, by omega, by omega⟩ | exact ⟨by omega, hall i hi0 (by assumption)⟩ | ((try simp only [decide_eq_true_eq, Bool.and_eq_true, ne_eq, decide_not, Bool.not_eq_true', Bool.not_eq_false', Bool.or_eq_false_iff, Bool.not_not, decide_eq_false_iff_not]); (try intro hh); (repeat' apply And.intro) <;> (first | omega | (simp only [inR]; omega) | assumption | exact ⟨by omega, hall i hi0 (by assumption)⟩ | exact hh.1 | exact hh.2 | exact hh.2.1 | exact hh.2.2 | exact hh.1.1 | exact hh.1.2 | (intro hq; exact ⟨hh, hq⟩) | (intro hq; exact ⟨hh.1, hq⟩) | (simp_all; done)))))
    refine hK10 _ ?_
    clear hK10
    refine W_cond (b := _) rfl (fun hc11 => ?_) (fun hc11 => ?_)
    · try simp only [decide_eq_true_eq, decide_eq_false_iff_not, ne_eq, Decidable.not_not, Bool.not_eq_true', Bool.not_eq_false', Bool.or_eq_true, Bool.and_eq_true, Bool.or_eq_false_iff, Bool.and_eq_false_iff] at hc11
      refine W_seq (fun K12 hK12 => ?_)
      refine W_region hT hG [] [4] ?_
      rw [hnt]
      simp only [baseS, eq_self, implies_true, if_true, if_false, reduceIte, Nat.reduceBEq, Nat.reduceEqDiff, Nat.reduceLT, Nat.reduceAdd, reduceCtorEq, tyInt, tdInt, tyInts, tdInts, c_impl_SafeSlots_1]
      repeat (refine And.intro ?_ ?_; focus (first | exact ordP (by kernel_rfl) | with_reducible exact rfl | assumption | trivial | (simp only [inR]; omega) | omega | exact ⟨by omega, by omega⟩ | exact ⟨by omega, by omega, by omega⟩ | exact ⟨by omega, hall i hi0 (by assumption)⟩ | ((try simp only [decide_eq_true_eq, Bool.and_eq_true, ne_eq, decide_not, Bool.not_eq_true', Bool.not_eq_false', Bool.or_eq_false_iff, Bool.not_not, decide_eq_false_iff_not]); (try intro hh); (repeat' apply And.intro) <;> (first | omega | (simp only [inR]; omega) | assumption | exact ⟨by omega, hall i hi0 (by assumption)⟩ | exact hh.1 | exact hh.2 | exact hh.2.1 | exact hh.2.2 | exact hh.1.1 | exact hh.1.2 | (intro hq; exact ⟨hh, hq⟩) | (intro hq; exact ⟨hh.1, hq⟩) | (simp_all; done)))))
      refine hK12 _ ?_
      clear hK12
      refine W_ret ?_
      simp only [thenQ, blockQ, loopQ, retQ, reduceIte, Nat.reduceEqDiff]
      refine ret0 ?_ rfl rfl (.inr rfl) rfl
      simp only [show Try.f134.results.toList = [ResultVar.tmp 4] from rfl, resAV, resL, look, Nat.reduceEqDiff, reduceIte, tyHull, tdHull, applyUps, noH, isStr, List.length_cons, List.length_nil, Nat.reduceAdd, and_self]
      all_goals (
        refine congrArg (fun x => some (AV.int x)) ?_
        first | (rw [firstF_end hc11] at hI; exact hI) | (rw [firstF_step hi0 hc7, if_pos (by rw [decide_eq_true_eq]; exact hc11)] at hI; exact hI))
    · try simp only [decide_eq_true_eq, decide_eq_false_iff_not, ne_eq, Decidable.not_not, Bool.not_eq_true', Bool.not_eq_false', Bool.or_eq_true, Bool.and_eq_true, Bool.or_eq_false_iff, Bool.and_eq_false_iff] at hc11
      refine W_skip ?_
      simp only [thenQ, blockQ, loopQ, reduceIte, Nat.reduceEqDiff]
      refine hK8 _ ?_
      clear hK8
      refine W_region hT hG [] [0, 1, 7, 8] ?_
      rw [hnt]
      simp only [baseS, eq_self, implies_true, if_true, if_false, reduceIte, Nat.reduceBEq, Nat.reduceEqDiff, Nat.reduceLT, Nat.reduceAdd, reduceCtorEq, tyInt, tdInt, tyInts, tdInts, c_impl_SafeSlots_1]
      repeat (refine And.intro ?_ ?_; focus (first | exact ordP (by kernel_rfl) | with_reducible exact rfl | assumption | trivial | (simp only [inR]; omega) | omega | exact ⟨by omega, by omega⟩ | exact ⟨by omega, by omega, by omega⟩ | exact ⟨by omega, hall i hi0 (by assumption)⟩ | ((try simp only [decide_eq_true_eq, Bool.and_eq_true, ne_eq, decide_not, Bool.not_eq_true', Bool.not_eq_false', Bool.or_eq_false_iff, Bool.not_not, decide_eq_false_iff_not]); (try intro hh); (repeat' apply And.intro) <;> (first | omega | (simp only [inR]; omega) | assumption | exact ⟨by omega, hall i hi0 (by assumption)⟩ | exact hh.1 | exact hh.2 | exact hh.2.1 | exact hh.2.2 | exact hh.1.1 | exact hh.1.2 | (intro hq; exact ⟨hh, hq⟩) | (intro hq; exact ⟨hh.1, hq⟩) | (simp_all; done)))))
      refine ⟨i + 1, (by (try simp only [hnt, hnp]); rfl), ⟨by omega, by omega, by rw [firstF_step hi0 hc7, if_neg (by rw [decide_eq_true_eq]; exact hc11)] at hI; exact hI⟩, by dsimp only; omega⟩
  · try simp only [decide_eq_true_eq, decide_eq_false_iff_not, ne_eq, Decidable.not_not, Bool.not_eq_true', Bool.not_eq_false', Bool.or_eq_true, Bool.and_eq_true, Bool.or_eq_false_iff, Bool.and_eq_false_iff] at hc7
    refine W_exit ?_
    simp only [thenQ, blockQ, loopQ, reduceIte, Nat.reduceEqDiff]
    refine hK2 _ ?_
    clear hK2
    refine W_seq (fun K13 hK13 => ?_)
    refine W_region hT hG [] [4] ?_
    rw [hnt]
    simp only [baseS, eq_self, implies_true, if_true, if_false, reduceIte, Nat.reduceBEq, Nat.reduceEqDiff, Nat.reduceLT, Nat.reduceAdd, reduceCtorEq, tyInt, tdInt, tyInts, tdInts, c_impl_SafeSlots_1]
    repeat (refine And.intro ?_ ?_; focus (first | exact ordP (by kernel_rfl) | with_reducible exact rfl | assumption | trivial | (simp only [inR]; omega) | omega | exact ⟨by omega, by omega⟩ | exact ⟨by omega, by omega, by omega⟩ | exact ⟨by omega, hall i hi0 (by assumption)⟩ | ((try simp only [decide_eq_true_eq, Bool.and_eq_true, ne_eq, decide_not, Bool.not_eq_true', Bool.not_eq_false', Bool.or_eq_false_iff, Bool.not_not, decide_eq_false_iff_not]); (try intro hh); (repeat' apply And.intro) <;> (first | omega | (simp only [inR]; omega) | assumption | exact ⟨by omega, hall i hi0 (by assumption)⟩ | exact hh.1 | exact hh.2 | exact hh.2.1 | exact hh.2.2 | exact hh.1.1 | exact hh.1.2 | (intro hq; exact ⟨hh, hq⟩) | (intro hq; exact ⟨hh.1, hq⟩) | (simp_all; done)))))
    refine hK13 _ ?_
    clear hK13
    refine W_ret ?_
    simp only [thenQ, blockQ, loopQ, retQ, reduceIte, Nat.reduceEqDiff]
    refine ret0 ?_ rfl rfl (.inr rfl) rfl
    simp only [show Try.f134.results.toList = [ResultVar.tmp 4] from rfl, resAV, resL, look, Nat.reduceEqDiff, reduceIte, tyHull, tdHull, applyUps, noH, isStr, List.length_cons, List.length_nil, Nat.reduceAdd, and_self]
    all_goals (
      refine congrArg (fun x => some (AV.int x)) ?_
      first | (rw [firstF_end hc7] at hI; exact hI) | (rw [firstF_step hi0 HCPREV, if_pos (by rw [decide_eq_true_eq]; exact hc7)] at hI; exact hI))

def c_slices_ContainsFunc_int_int : Ctr where
  modes := [.v (.r .i64), .v .p]
  al := false
  run := fun xs os => match xs, os with
    | [.rs .i64 l, .clo 116 [.rp [.int b, .int r, .int t], .rp [.int s], .rp [.int c], .rp [.rs .box bs], .rp [.rs .i64 p]]], [] => some ⟨l.length ≤ 9223372036854775807 ∧ bs.length ≤ 9223372036854775807 ∧ ∀ i : Int, 0 ≤ i → i < l.length → (0 ≤ l.getD i.toNat 0 ∧ l.getD i.toNat 0 < p.length) ∧ 0 ≤ findF bs (p.getD (l.getD i.toNat 0).toNat 0) 0 ∧ (inS b r t s && inS b r t (l.getD i.toNat 0)) = true, .bool (l.any (fun j => decide (apD r t s j < need c (cAt bs (p.getD j.toNat 0))))), [], []⟩
    | _, _ => none
theorem m_slices_ContainsFunc_int_int : Meets Try.prog 115 c_slices_ContainsFunc_int_int := by
  refine meets_of (T := tyT) tyOK Try.func115 (by rfl) rfl (by decide) ?_
  intro args owns R hrun hpre
  simp only [c_slices_ContainsFunc_int_int] at hrun
  split at hrun
  case h_2 => cases hrun
  rename_i l b r t s c bs p
  cases hrun
  try dsimp only at hpre
  refine ⟨_, rfl, fun E hP hnt hnp => ?_⟩
  replace hnt : E.nt = 9 := hnt
  replace hnp : E.np = 2 := hnp
  have hT : ∀ t d, tyT t = some d → TyOK E.P t d := hP ▸ tyOK
  have hG : ∀ f C, Γof [(134, c_slices_IndexFunc_int_int)] f = some C → Meets E.P f C := hΓof (by rw [hP]; exact ⟨m_slices_IndexFunc_int_int, trivial⟩)
  try simp only [show Try.f115.ntmps = 9 from rfl]
  refine W_seq (fun K1 hK1 => ?_)
  refine W_region hT hG [] [0, 1] ?_
  rw [hnt]
  simp only [baseS, eq_self, implies_true, if_true, if_false, reduceIte, Nat.reduceBEq, Nat.reduceEqDiff, Nat.reduceLT, Nat.reduceAdd, reduceCtorEq, tyInt, tdInt, tyInts, tdInts, c_slices_IndexFunc_int_int]
  repeat (refine And.intro ?_ ?_; focus (first | exact ordP (by kernel_rfl) | with_reducible exact rfl | assumption | trivial | (simp only [inR]; omega) | omega | exact ⟨by omega, by omega⟩ | exact ⟨by omega, by omega, by omega⟩ | exact hpre | ((try simp only [decide_eq_true_eq, Bool.and_eq_true, ne_eq, decide_not, Bool.not_eq_true', Bool.not_eq_false', Bool.or_eq_false_iff, Bool.not_not, decide_eq_false_iff_not]); (try intro hh); (repeat' apply And.intro) <;> (first | omega | (simp only [inR]; omega) | assumption | exact hpre | exact hh.1 | exact hh.2 | exact hh.2.1 | exact hh.2.2 | exact hh.1.1 | exact hh.1.2 | (intro hq; exact ⟨hh, hq⟩) | (intro hq; exact ⟨hh.1, hq⟩) | (simp_all; done)))))
  refine hK1 _ ?_
  clear hK1
  refine W_seq (fun K2 hK2 => ?_)
  refine W_region hT hG [] [4] ?_
  rw [hnt]
  simp only [baseS, eq_self, implies_true, if_true, if_false, reduceIte, Nat.reduceBEq, Nat.reduceEqDiff, Nat.reduceLT, Nat.reduceAdd, reduceCtorEq, tyInt, tdInt, tyInts, tdInts, c_slices_IndexFunc_int_int]
  repeat (refine And.intro ?_ ?_; focus (first | exact ordP (by kernel_rfl) | with_reducible exact rfl | assumption | trivial | (simp only [inR]; omega) | omega | exact ⟨by omega, by omega⟩ | exact ⟨by omega, by omega, by omega⟩ | exact hpre | ((try simp only [decide_eq_true_eq, Bool.and_eq_true, ne_eq, decide_not, Bool.not_eq_true', Bool.not_eq_false', Bool.or_eq_false_iff, Bool.not_not, decide_eq_false_iff_not]); (try intro hh); (repeat' apply And.intro) <;> (first | omega | (simp only [inR]; omega) | assumption | exact hpre | exact hh.1 | exact hh.2 | exact hh.2.1 | exact hh.2.2 | exact hh.1.1 | exact hh.1.2 | (intro hq; exact ⟨hh, hq⟩) | (intro hq; exact ⟨hh.1, hq⟩) | (simp_all; done)))))
  refine hK2 _ ?_
  clear hK2
  refine W_ret ?_
  simp only [thenQ, blockQ, loopQ, retQ, reduceIte, Nat.reduceEqDiff]
  refine ret0 ?_ rfl rfl (.inr rfl) rfl
  simp only [show Try.f115.results.toList = [ResultVar.tmp 4] from rfl, resAV, resL, look, Nat.reduceEqDiff, reduceIte, tyHull, tdHull, applyUps, noH, isStr, List.length_cons, List.length_nil, Nat.reduceAdd, and_self]
  all_goals (
    refine congrArg (fun x => some (AV.bool x)) ?_
    exact firstF_any (fun j => decide (apD r t s j < need c (cAt bs (p.getD j.toNat 0)))) l 0 (by omega))

def c_impl_SafeSlots : Ctr where
  modes := [.v .p, .v (.r .box), .v (.r .i64), .v .p]
  al := false
  run := fun xs os => match xs, os with
    | [.agg [.int b, .int r, .int t], .rs .box bs, .rs .i64 p, .int c], [] => some ⟨bs.length ≤ 9223372036854775807 ∧ p.length ≤ 9223372036854775807, .sl 0, [.sl 3 .i64 (safeR b r t bs p c)], []⟩
    | _, _ => none
theorem m_impl_SafeSlots : Meets Try.prog 67 c_impl_SafeSlots := by
  refine meets_of (T := tyT) tyOK Try.func67 (by rfl) rfl (by decide) ?_
  intro args owns R hrun hpre
  simp only [c_impl_SafeSlots] at hrun
  split at hrun
  case h_2 => cases hrun
  rename_i b r t bs p c
  cases hrun
  try dsimp only at hpre
  refine ⟨_, rfl, fun E hP hnt hnp => ?_⟩
  replace hnt : E.nt = 37 := hnt
  replace hnp : E.np = 4 := hnp
  have hT : ∀ t d, tyT t = some d → TyOK E.P t d := hP ▸ tyOK
  have hG : ∀ f C, Γof [(35, c_impl_PlanNext), (75, c_impl_within), (108, c_impl_fullSlots), (115, c_slices_ContainsFunc_int_int)] f = some C → Meets E.P f C := hΓof (by rw [hP]; exact ⟨m_impl_PlanNext, m_impl_within, m_impl_fullSlots, m_slices_ContainsFunc_int_int, trivial⟩)
  try simp only [show Try.f67.ntmps = 37 from rfl]
  have hbs := hpre.1
  have hp := hpre.2
  have hnl := nextR_len b r t bs p
  have hfl := fullS_len p
  refine W_seq (fun K1 hK1 => ?_)
  refine W_region hT hG [] [4, 5, 6, 7] ?_
  rw [hnt]
  simp only [baseS, eq_self, implies_true, if_true, if_false, reduceIte, Nat.reduceBEq, Nat.reduceEqDiff, Nat.reduceLT, Nat.reduceAdd, reduceCtorEq, tyInt, tdInt, tyHull, tdHull, tyBoxes, tdBoxes, tyInts, tdInts, c_impl_PlanNext, c_impl_within, c_impl_fullSlots, c_slices_ContainsFunc_int_int, decide_false, room, Nat.reduceLeDiff, Nat.zero_le, storeAV, rowQ, ownInts, FT.of, FT.setf, elems, appAV_I, appI, srcI, ownI, anyI, sameR, appAV_P, appP, srcP, ownP, anyP]
  repeat (refine And.intro ?_ ?_; focus (first | exact ordP (by kernel_rfl) | with_reducible exact rfl | assumption | trivial | (simp only [inR]; omega) | omega | exact ⟨by omega, by omega⟩ | exact ⟨by omega, by omega, by omega⟩ | exact ⟨by omega, by omega, hcall⟩ | ((try simp only [decide_eq_true_eq, Bool.and_eq_true, ne_eq, decide_not, Bool.not_eq_true', Bool.not_eq_false', Bool.or_eq_false_iff, Bool.not_not, decide_eq_false_iff_not]); (try intro hh); (repeat' apply And.intro) <;> (first | omega | (simp only [inR]; omega) | assumption | exact ⟨by omega, by omega, hcall⟩ | exact hh.1 | exact hh.2 | exact hh.2.1 | exact hh.2.2 | exact hh.1.1 | exact hh.1.2 | (intro hq; exact ⟨hh, hq⟩) | (intro hq; exact ⟨hh.1, hq⟩) | (simp_all; done)))))
  refine hK1 _ ?_
  clear hK1
  refine W_seq (fun K2 hK2 => ?_)
  refine W_seq (fun K3 hK3 => ?_)
  refine W_region hT hG [] [4, 5, 6, 7, 15] ?_
  rw [hnt]
  simp only [baseS, eq_self, implies_true, if_true, if_false, reduceIte, Nat.reduceBEq, Nat.reduceEqDiff, Nat.reduceLT, Nat.reduceAdd, reduceCtorEq, tyInt, tdInt, tyHull, tdHull, tyBoxes, tdBoxes, tyInts, tdInts, c_impl_PlanNext, c_impl_within, c_impl_fullSlots, c_slices_ContainsFunc_int_int, decide_false, room, Nat.reduceLeDiff, Nat.zero_le, storeAV, rowQ, ownInts, FT.of, FT.setf, elems, appAV_I, appI, srcI, ownI, anyI, sameR, appAV_P, appP, srcP, ownP, anyP]
  repeat (refine And.intro ?_ ?_; focus (first | exact ordP (by kernel_rfl) | with_reducible exact rfl | assumption | trivial | (simp only [inR]; omega) | omega | exact ⟨by omega, by omega⟩ | exact ⟨by omega, by omega, by omega⟩ | exact ⟨by omega, by omega, hcall⟩ | ((try simp only [decide_eq_true_eq, Bool.and_eq_true, ne_eq, decide_not, Bool.not_eq_true', Bool.not_eq_false', Bool.or_eq_false_iff, Bool.not_not, decide_eq_false_iff_not]); (try intro hh); (repeat' apply And.intro) <;> (first | omega | (simp only [inR]; omega) | assumption | exact ⟨by omega, by omega, hcall⟩ | exact hh.1 | exact hh.2 | exact hh.2.1 | exact hh.2.2 | exact hh.1.1 | exact hh.1.2 | (intro hq; exact ⟨hh, hq⟩) | (intro hq; exact ⟨hh.1, hq⟩) | (simp_all; done)))))
  refine hK3 _ ?_
  clear hK3
  refine W_cond (b := _) rfl (fun hc4 => ?_) (fun hc4 => ?_)
  · try simp only [decide_eq_true_eq, decide_eq_false_iff_not, ne_eq, Decidable.not_not, Bool.not_eq_true', Bool.not_eq_false', Bool.or_eq_true, Bool.and_eq_true, Bool.or_eq_false_iff, Bool.and_eq_false_iff] at hc4
    refine W_seq (fun K5 hK5 => ?_)
    refine W_region hT hG [] [8] ?_
    rw [hnt]
    simp only [baseS, eq_self, implies_true, if_true, if_false, reduceIte, Nat.reduceBEq, Nat.reduceEqDiff, Nat.reduceLT, Nat.reduceAdd, reduceCtorEq, tyInt, tdInt, tyHull, tdHull, tyBoxes, tdBoxes, tyInts, tdInts, c_impl_PlanNext, c_impl_within, c_impl_fullSlots, c_slices_ContainsFunc_int_int, decide_false, room, Nat.reduceLeDiff, Nat.zero_le, storeAV, rowQ, ownInts, FT.of, FT.setf, elems, appAV_I, appI, srcI, ownI, anyI, sameR, appAV_P, appP, srcP, ownP, anyP]
    repeat (refine And.intro ?_ ?_; focus (first | exact ordP (by kernel_rfl) | with_reducible exact rfl | assumption | trivial | (simp only [inR]; omega) | omega | exact ⟨by omega, by omega⟩ | exact ⟨by omega, by omega, by omega⟩ | exact ⟨by omega, by omega, hcall⟩ | ((try simp only [decide_eq_true_eq, Bool.and_eq_true, ne_eq, decide_not, Bool.not_eq_true', Bool.not_eq_false', Bool.or_eq_false_iff, Bool.not_not, decide_eq_false_iff_not]); (try intro hh); (repeat' apply And.intro) <;> (first | omega | (simp only [inR]; omega) | assumption | exact ⟨by omega, by omega, hcall⟩ | exact hh.1 | exact hh.2 | exact hh.2.1 | exact hh.2.2 | exact hh.1.1 | exact hh.1.2 | (intro hq; exact ⟨hh, hq⟩) | (intro hq; exact ⟨hh.1, hq⟩) | (simp_all; done)))))
    refine hK5 _ ?_
    clear hK5
    refine W_re [(8, .own 3 .i64)] (by (try simp only [hnt, hnp]); rfl) ?_
    refine W_ret ?_
    simp only [thenQ, blockQ, loopQ, retQ, reduceIte, Nat.reduceEqDiff]
    refine ret1s 8 rfl rfl rfl ?_
    all_goals (
      first | (rw [safeR, if_neg hc4]; done) | (rw [safeR, if_pos hc4, hO, show i.toNat = (nextR b r t bs p).length by omega, List.take_length]; done))
  · try simp only [decide_eq_true_eq, decide_eq_false_iff_not, ne_eq, Decidable.not_not, Bool.not_eq_true', Bool.not_eq_false', Bool.or_eq_true, Bool.and_eq_true, Bool.or_eq_false_iff, Bool.and_eq_false_iff] at hc4
    refine W_skip ?_
    simp only [thenQ, blockQ, loopQ, reduceIte, Nat.reduceEqDiff]
    refine hK2 _ ?_
    clear hK2
    refine W_seq (fun K6 hK6 => ?_)
    refine W_region hT hG [] [4, 5, 6, 7, 9] ?_
    rw [hnt]
    simp only [baseS, eq_self, implies_true, if_true, if_false, reduceIte, Nat.reduceBEq, Nat.reduceEqDiff, Nat.reduceLT, Nat.reduceAdd, reduceCtorEq, tyInt, tdInt, tyHull, tdHull, tyBoxes, tdBoxes, tyInts, tdInts, c_impl_PlanNext, c_impl_within, c_impl_fullSlots, c_slices_ContainsFunc_int_int, decide_false, room, Nat.reduceLeDiff, Nat.zero_le, storeAV, rowQ, ownInts, FT.of, FT.setf, elems, appAV_I, appI, srcI, ownI, anyI, sameR, appAV_P, appP, srcP, ownP, anyP]
    repeat (refine And.intro ?_ ?_; focus (first | exact ordP (by kernel_rfl) | with_reducible exact rfl | assumption | trivial | (simp only [inR]; omega) | omega | exact ⟨by omega, by omega⟩ | exact ⟨by omega, by omega, by omega⟩ | exact ⟨by omega, by omega, hcall⟩ | ((try simp only [decide_eq_true_eq, Bool.and_eq_true, ne_eq, decide_not, Bool.not_eq_true', Bool.not_eq_false', Bool.or_eq_false_iff, Bool.not_not, decide_eq_false_iff_not]); (try intro hh); (repeat' apply And.intro) <;> (first | omega | (simp only [inR]; omega) | assumption | exact ⟨by omega, by omega, hcall⟩ | exact hh.1 | exact hh.2 | exact hh.2.1 | exact hh.2.2 | exact hh.1.1 | exact hh.1.2 | (intro hq; exact ⟨hh, hq⟩) | (intro hq; exact ⟨hh.1, hq⟩) | (simp_all; done)))))
    refine hK6 _ ?_
    clear hK6
    refine W_seq (fun K7 hK7 => ?_)
    refine W_seq (fun K8 hK8 => ?_)
    refine W_region hT hG [] [4, 5, 6, 7, 9, 19, 20, 21] ?_
    rw [hnt]
    simp only [baseS, eq_self, implies_true, if_true, if_false, reduceIte, Nat.reduceBEq, Nat.reduceEqDiff, Nat.reduceLT, Nat.reduceAdd, reduceCtorEq, tyInt, tdInt, tyHull, tdHull, tyBoxes, tdBoxes, tyInts, tdInts, c_impl_PlanNext, c_impl_within, c_impl_fullSlots, c_slices_ContainsFunc_int_int, decide_false, room, Nat.reduceLeDiff, Nat.zero_le, storeAV, rowQ, ownInts, FT.of, FT.setf, elems, appAV_I, appI, srcI, ownI, anyI, sameR, appAV_P, appP, srcP, ownP, anyP]
    repeat (refine And.intro ?_ ?_; focus (first | exact ordP (by kernel_rfl) | with_reducible exact rfl | assumption | trivial | (simp only [inR]; omega) | omega | exact ⟨by omega, by omega⟩ | exact ⟨by omega, by omega, by omega⟩ | exact ⟨by omega, by omega, hcall⟩ | ((try simp only [decide_eq_true_eq, Bool.and_eq_true, ne_eq, decide_not, Bool.not_eq_true', Bool.not_eq_false', Bool.or_eq_false_iff, Bool.not_not, decide_eq_false_iff_not]); (try intro hh); (repeat' apply And.intro) <;> (first | omega | (simp only [inR]; omega) | assumption | exact ⟨by omega, by omega, hcall⟩ | exact hh.1 | exact hh.2 | exact hh.2.1 | exact hh.2.2 | exact hh.1.1 | exact hh.1.2 | (intro hq; exact ⟨hh, hq⟩) | (intro hq; exact ⟨hh.1, hq⟩) | (simp_all; done)))))
    refine hK8 _ ?_
    clear hK8
    refine W_block ?_
    refine W_loop (α := Int × List Int) [(4, .as), (5, .as), (6, .as), (7, .as), (9, .own 3 .i64), (19, .fz .i64), (20, .as), (21, .as)] (fun x => ⟨[(4, .rp [.int b, .int r, .int t]), (5, .rp [.rs .box bs]), (6, .rp [.rs .i64 p]), (7, .rp [.int c]), (9, .sl 9), (19, .rs .i64 (nextR b r t bs p)), (20, .int (nextR b r t bs p).length), (21, .int x.1)], [(9, some (.sl 3 .i64 x.2))], 37⟩) (fun x => 0 ≤ x.1 ∧ x.1 ≤ (nextR b r t bs p).length ∧ x.2 = ((nextR b r t bs p).take x.1.toNat).filter (safeS r t bs p c)) (fun x => ((nextR b r t bs p).length - x.1).toNat) (0, []) ?_ ?_ ?_
    · (try simp only [hnt, hnp]); rfl
    · exact ⟨by omega, by omega, by simp⟩
    rintro ⟨i, out⟩ ⟨hi0, hi1, hO⟩
    dsimp only at hi0 hi1 hO ⊢
    have hg := fun h => @nextR_get b r t bs p i hi0 h
    have hfs := filter_step (P := safeS r t bs p c) (l := nextR b r t bs p) (i := i) hi0
    refine W_seq (fun K10 hK10 => ?_)
    refine W_region hT hG [] [4, 5, 6, 7, 9, 19, 20, 21, 22] ?_
    rw [hnt]
    simp only [baseS, eq_self, implies_true, if_true, if_false, reduceIte, Nat.reduceBEq, Nat.reduceEqDiff, Nat.reduceLT, Nat.reduceAdd, reduceCtorEq, tyInt, tdInt, tyHull, tdHull, tyBoxes, tdBoxes, tyInts, tdInts, c_impl_PlanNext, c_impl_within, c_impl_fullSlots, c_slices_ContainsFunc_int_int, decide_false, room, Nat.reduceLeDiff, Nat.zero_le, storeAV, rowQ, ownInts, FT.of, FT.setf, elems, appAV_I, appI, srcI, ownI, anyI, sameR, appAV_P, appP, srcP, ownP, anyP]
    repeat (refine And.intro ?_ ?_; focus (first | exact ordP (by kernel_rfl) | with_reducible exact rfl | assumption | trivial | (simp only [inR]; omega) | omega | exact ⟨by omega, by omega⟩ | exact ⟨by omega, by omega, by omega⟩ | exact ⟨by omega, by omega, hcall⟩ | ((try simp only [decide_eq_true_eq, Bool.and_eq_true, ne_eq, decide_not, Bool.not_eq_true', Bool.not_eq_false', Bool.or_eq_false_iff, Bool.not_not, decide_eq_false_iff_not]); (try intro hh); (repeat' apply And.intro) <;> (first | omega | (simp only [inR]; omega) | assumption | exact ⟨by omega, by omega, hcall⟩ | exact hh.1 | exact hh.2 | exact hh.2.1 | exact hh.2.2 | exact hh.1.1 | exact hh.1.2 | (intro hq; exact ⟨hh, hq⟩) | (intro hq; exact ⟨hh.1, hq⟩) | (simp_all; done)))))
    refine hK10 _ ?_
    clear hK10
    refine W_seq (fun K11 hK11 => ?_)
    refine W_cond (b := _) rfl (fun hc12 => ?_) (fun hc12 => ?_)
    · try simp only [decide_eq_true_eq, decide_eq_false_iff_not, ne_eq, Decidable.not_not, Bool.not_eq_true', Bool.not_eq_false', Bool.or_eq_true, Bool.and_eq_true, Bool.or_eq_false_iff, Bool.and_eq_false_iff] at hc12
      refine W_skip ?_
      simp only [thenQ, blockQ, loopQ, reduceIte, Nat.reduceEqDiff]
      refine hK11 _ ?_
      clear hK11
      refine W_seq (fun K13 hK13 => ?_)
      refine W_block ?_
      refine W_seq (fun K14 hK14 => ?_)
      refine W_region hT hG [] [4, 5, 6, 7, 9, 11, 19, 20, 21] ?_
      rw [hnt]
      simp only [baseS, eq_self, implies_true, if_true, if_false, reduceIte, Nat.reduceBEq, Nat.reduceEqDiff, Nat.reduceLT, Nat.reduceAdd, reduceCtorEq, tyInt, tdInt, tyHull, tdHull, tyBoxes, tdBoxes, tyInts, tdInts, c_impl_PlanNext, c_impl_within, c_impl_fullSlots, c_slices_ContainsFunc_int_int, decide_false, room, Nat.reduceLeDiff, Nat.zero_le, storeAV, rowQ, ownInts, FT.of, FT.setf, elems, appAV_I, appI, srcI, ownI, anyI, sameR, appAV_P, appP, srcP, ownP, anyP]
      repeat (refine And.intro ?_ ?_; focus (first | exact ordP (by kernel_rfl) | with_reducible exact rfl | assumption | trivial | (simp only [inR]; omega) | omega | exact ⟨by omega, by omega⟩ | exact ⟨by omega, by omega, by omega⟩ | exact ⟨by omega, by omega, hcall⟩ | ((try simp only [decide_eq_true_eq, Bool.and_eq_true, ne_eq, decide_not, Bool.not_eq_true', Bool.not_eq_false', Bool.or_eq_false_iff, Bool.not_not, decide_eq_false_iff_not]); (try intro hh); (repeat' apply And.intro) <;> (first | omega | (simp only [inR]; omega) | assumption | exact ⟨by omega, by omega, hcall⟩ | exact hh.1 | exact hh.2 | exact hh.2.1 | exact hh.2.2 | exact hh.1.1 | exact hh.1.2 | (intro hq; exact ⟨hh, hq⟩) | (intro hq; exact ⟨hh.1, hq⟩) | (simp_all; done)))))
      refine hK14 _ ?_
      clear hK14
      refine W_seq (fun K15 hK15 => ?_)
      refine W_re (st' := ⟨[(4, .rp [.int b, .int r, .int t]), (5, .rp [.rs .box bs]), (6, .rp [.rs .i64 p]), (7, .rp [.int c]), (9, .sl 9), (11, .rp [.int ((nextR b r t bs p).getD i.toNat 0)]), (19, .rs .i64 (nextR b r t bs p)), (20, .int (nextR b r t bs p).length), (21, .int i)], [(9, some (.sl 3 .i64 out))], 37⟩) [(4, .as), (5, .as), (6, .as), (7, .as), (9, .own 3 .i64), (11, .fzv), (19, .as), (20, .as), (21, .as)] (by (try simp only [hnt, hnp]); rfl) ?_
      refine W_region hT hG [] [4, 5, 6, 7, 9, 11, 12, 19, 20, 21] ?_
      rw [hnt]
      have hg1 := hg hc12
      have hok := planB_ok hg1.1
      have hle := hok.le
      have hol : out.length ≤ 36 := by
        rw [hO]
        have := List.length_filter_le (safeS r t bs p c) ((nextR b r t bs p).take i.toNat)
        rw [List.length_take] at this; omega
      have hcall : ∀ q : Int, 0 ≤ q → q < (fullS p).length → (0 ≤ (fullS p).getD q.toNat 0 ∧ (fullS p).getD q.toNat 0 < p.length) ∧ 0 ≤ findF bs (p.getD ((fullS p).getD q.toNat 0).toNat 0) 0 ∧ (inS b r t ((nextR b r t bs p).getD i.toNat 0) && inS b r t ((fullS p).getD q.toNat 0)) = true := fun q h0 h1 => by
        have hA := fullS_get h0 h1
        exact ⟨⟨hA.1, hA.2.1⟩, (hok.inb _).resolve_left hA.2.2, by rw [slot_in hok hg1.2.1 hg1.2.2, slot_in hok hA.1 hA.2.1]; rfl⟩
      simp only [baseS, eq_self, implies_true, if_true, if_false, reduceIte, Nat.reduceBEq, Nat.reduceEqDiff, Nat.reduceLT, Nat.reduceAdd, reduceCtorEq, tyInt, tdInt, tyHull, tdHull, tyBoxes, tdBoxes, tyInts, tdInts, c_impl_PlanNext, c_impl_within, c_impl_fullSlots, c_slices_ContainsFunc_int_int, decide_false, room, Nat.reduceLeDiff, Nat.zero_le, storeAV, rowQ, ownInts, FT.of, FT.setf, elems, appAV_I, appI, srcI, ownI, anyI, sameR, appAV_P, appP, srcP, ownP, anyP]
      repeat (refine And.intro ?_ ?_; focus (first | exact ordP (by kernel_rfl) | with_reducible exact rfl | assumption | trivial | (simp only [inR]; omega) | omega | exact ⟨by omega, by omega⟩ | exact ⟨by omega, by omega, by omega⟩ | exact ⟨by omega, by omega, hcall⟩ | ((try simp only [decide_eq_true_eq, Bool.and_eq_true, ne_eq, decide_not, Bool.not_eq_true', Bool.not_eq_false', Bool.or_eq_false_iff, Bool.not_not, decide_eq_false_iff_not]); (try intro hh); (repeat' apply And.intro) <;> (first | omega | (simp only [inR]; omega) | assumption | exact ⟨by omega, by omega, hcall⟩ | exact hh.1 | exact hh.2 | exact hh.2.1 | exact hh.2.2 | exact hh.1.1 | exact hh.1.2 | (intro hq; exact ⟨hh, hq⟩) | (intro hq; exact ⟨hh.1, hq⟩) | (simp_all; done)))))
      refine hK15 _ ?_
      clear hK15
      refine W_seq (fun K16 hK16 => ?_)
      refine W_region hT hG [] [4, 5, 6, 7, 9, 11, 19, 20, 21, 30] ?_
      rw [hnt]
      simp only [baseS, eq_self, implies_true, if_true, if_false, reduceIte, Nat.reduceBEq, Nat.reduceEqDiff, Nat.reduceLT, Nat.reduceAdd, reduceCtorEq, tyInt, tdInt, tyHull, tdHull, tyBoxes, tdBoxes, tyInts, tdInts, c_impl_PlanNext, c_impl_within, c_impl_fullSlots, c_slices_ContainsFunc_int_int, decide_false, room, Nat.reduceLeDiff, Nat.zero_le, storeAV, rowQ, ownInts, FT.of, FT.setf, elems, appAV_I, appI, srcI, ownI, anyI, sameR, appAV_P, appP, srcP, ownP, anyP]
      repeat (refine And.intro ?_ ?_; focus (first | exact ordP (by kernel_rfl) | with_reducible exact rfl | assumption | trivial | (simp only [inR]; omega) | omega | exact ⟨by omega, by omega⟩ | exact ⟨by omega, by omega, by omega⟩ | exact ⟨by omega, by omega, hcall⟩ | ((try simp only [decide_eq_true_eq, Bool.and_eq_true, ne_eq, decide_not, Bool.not_eq_true', Bool.not_eq_false', Bool.or_eq_false_iff, Bool.not_not, decide_eq_false_iff_not]); (try intro hh); (repeat' apply And.intro) <;> (first | omega | (simp only [inR]; omega) | assumption | exact ⟨by omega, by omega, hcall⟩ | exact hh.1 | exact hh.2 | exact hh.2.1 | exact hh.2.2 | exact hh.1.1 | exact hh.1.2 | (intro hq; exact ⟨hh, hq⟩) | (intro hq; exact ⟨hh.1, hq⟩) | (simp_all; done)))))
      refine hK16 _ ?_
      clear hK16
      refine W_cond (b := _) rfl (fun hc17 => ?_) (fun hc17 => ?_)
      · try simp only [decide_eq_true_eq, decide_eq_false_iff_not, ne_eq, Decidable.not_not, Bool.not_eq_true', Bool.not_eq_false', Bool.or_eq_true, Bool.and_eq_true, Bool.or_eq_false_iff, Bool.and_eq_false_iff] at hc17
        refine W_region hT hG [] [4, 5, 6, 7, 9, 19, 20, 21] ?_
        rw [hnt]
        simp only [baseS, eq_self, implies_true, if_true, if_false, reduceIte, Nat.reduceBEq, Nat.reduceEqDiff, Nat.reduceLT, Nat.reduceAdd, reduceCtorEq, tyInt, tdInt, tyHull, tdHull, tyBoxes, tdBoxes, tyInts, tdInts, c_impl_PlanNext, c_impl_within, c_impl_fullSlots, c_slices_ContainsFunc_int_int, decide_false, room, Nat.reduceLeDiff, Nat.zero_le, storeAV, rowQ, ownInts, FT.of, FT.setf, elems, appAV_I, appI, srcI, ownI, anyI, sameR, appAV_P, appP, srcP, ownP, anyP]
        repeat (refine And.intro ?_ ?_; focus (first | exact ordP (by kernel_rfl) | with_reducible exact rfl | assumption | trivial | (simp only [inR]; omega) | omega | exact ⟨by omega, by omega⟩ | exact ⟨by omega, by omega, by omega⟩ | exact ⟨by omega, by omega, hcall⟩ | ((try simp only [decide_eq_true_eq, Bool.and_eq_true, ne_eq, decide_not, Bool.not_eq_true', Bool.not_eq_false', Bool.or_eq_false_iff, Bool.not_not, decide_eq_false_iff_not]); (try intro hh); (repeat' apply And.intro) <;> (first | omega | (simp only [inR]; omega) | assumption | exact ⟨by omega, by omega, hcall⟩ | exact hh.1 | exact hh.2 | exact hh.2.1 | exact hh.2.2 | exact hh.1.1 | exact hh.1.2 | (intro hq; exact ⟨hh, hq⟩) | (intro hq; exact ⟨hh.1, hq⟩) | (simp_all; done)))))
        refine hK13 _ ?_
        clear hK13
        refine W_region hT hG [] [4, 5, 6, 7, 9, 19, 20, 21] ?_
        rw [hnt]
        simp only [baseS, eq_self, implies_true, if_true, if_false, reduceIte, Nat.reduceBEq, Nat.reduceEqDiff, Nat.reduceLT, Nat.reduceAdd, reduceCtorEq, tyInt, tdInt, tyHull, tdHull, tyBoxes, tdBoxes, tyInts, tdInts, c_impl_PlanNext, c_impl_within, c_impl_fullSlots, c_slices_ContainsFunc_int_int, decide_false, room, Nat.reduceLeDiff, Nat.zero_le, storeAV, rowQ, ownInts, FT.of, FT.setf, elems, appAV_I, appI, srcI, ownI, anyI, sameR, appAV_P, appP, srcP, ownP, anyP]
        repeat (refine And.intro ?_ ?_; focus (first | exact ordP (by kernel_rfl) | with_reducible exact rfl | assumption | trivial | (simp only [inR]; omega) | omega | exact ⟨by omega, by omega⟩ | exact ⟨by omega, by omega, by omega⟩ | exact ⟨by omega, by omega, hcall⟩ | ((try simp only [decide_eq_true_eq, Bool.and_eq_true, ne_eq, decide_not, Bool.not_eq_true', Bool.not_eq_false', Bool.or_eq_false_iff, Bool.not_not, decide_eq_false_iff_not]); (try intro hh); (repeat' apply And.intro) <;> (first | omega | (simp only [inR]; omega) | assumption | exact ⟨by omega, by omega, hcall⟩ | exact hh.1 | exact hh.2 | exact hh.2.1 | exact hh.2.2 | exact hh.1.1 | exact hh.1.2 | (intro hq; exact ⟨hh, hq⟩) | (intro hq; exact ⟨hh.1, hq⟩) | (simp_all; done)))))
        first
        | (refine ⟨(i + 1, out ++ [(nextR b r t bs p).getD i.toNat 0]), (by (try simp only [hnt, hnp]); rfl), ⟨by dsimp only; omega, by dsimp only; omega, ?_⟩, by dsimp only; omega⟩; dsimp only; rw [hfs (by omega), if_pos (by rw [safeS, safe_full, hc17]; rfl), hO]; done)
        | (refine ⟨(i + 1, out), (by (try simp only [hnt, hnp]); rfl), ⟨by dsimp only; omega, by dsimp only; omega, ?_⟩, by dsimp only; omega⟩; dsimp only; rw [hfs (by omega), if_neg (by rw [safeS, safe_full, hc17]; simp), List.append_nil, hO]; done)
      · try simp only [decide_eq_true_eq, decide_eq_false_iff_not, ne_eq, Decidable.not_not, Bool.not_eq_true', Bool.not_eq_false', Bool.or_eq_true, Bool.and_eq_true, Bool.or_eq_false_iff, Bool.and_eq_false_iff] at hc17
        refine W_skip ?_
        simp only [thenQ, blockQ, loopQ, reduceIte, Nat.reduceEqDiff]
        refine hK13 _ ?_
        clear hK13
        refine W_region hT hG [] [4, 5, 6, 7, 9, 19, 20, 21] ?_
        rw [hnt]
        simp only [baseS, eq_self, implies_true, if_true, if_false, reduceIte, Nat.reduceBEq, Nat.reduceEqDiff, Nat.reduceLT, Nat.reduceAdd, reduceCtorEq, tyInt, tdInt, tyHull, tdHull, tyBoxes, tdBoxes, tyInts, tdInts, c_impl_PlanNext, c_impl_within, c_impl_fullSlots, c_slices_ContainsFunc_int_int, decide_false, room, Nat.reduceLeDiff, Nat.zero_le, storeAV, rowQ, ownInts, FT.of, FT.setf, elems, appAV_I, appI, srcI, ownI, anyI, sameR, appAV_P, appP, srcP, ownP, anyP]
        repeat (refine And.intro ?_ ?_; focus (first | exact ordP (by kernel_rfl) | with_reducible exact rfl | assumption | trivial | (simp only [inR]; omega) | omega | exact ⟨by omega, by omega⟩ | exact ⟨by omega, by omega, by omega⟩ | exact ⟨by omega, by omega, hcall⟩ | ((try simp only [decide_eq_true_eq, Bool.and_eq_true, ne_eq, decide_not, Bool.not_eq_true', Bool.not_eq_false', Bool.or_eq_false_iff, Bool.not_not, decide_eq_false_iff_not]); (try intro hh); (repeat' apply And.intro) <;> (first | omega | (simp only [inR]; omega) | assumption | exact ⟨by omega, by omega, hcall⟩ | exact hh.1 | exact hh.2 | exact hh.2.1 | exact hh.2.2 | exact hh.1.1 | exact hh.1.2 | (intro hq; exact ⟨hh, hq⟩) | (intro hq; exact ⟨hh.1, hq⟩) | (simp_all; done)))))
        first
        | (refine ⟨(i + 1, out ++ [(nextR b r t bs p).getD i.toNat 0]), (by (try simp only [hnt, hnp]); rfl), ⟨by dsimp only; omega, by dsimp only; omega, ?_⟩, by dsimp only; omega⟩; dsimp only; rw [hfs (by omega), if_pos (by rw [safeS, safe_full, hc17]; rfl), hO]; done)
        | (refine ⟨(i + 1, out), (by (try simp only [hnt, hnp]); rfl), ⟨by dsimp only; omega, by dsimp only; omega, ?_⟩, by dsimp only; omega⟩; dsimp only; rw [hfs (by omega), if_neg (by rw [safeS, safe_full, hc17]; simp), List.append_nil, hO]; done)
    · try simp only [decide_eq_true_eq, decide_eq_false_iff_not, ne_eq, Decidable.not_not, Bool.not_eq_true', Bool.not_eq_false', Bool.or_eq_true, Bool.and_eq_true, Bool.or_eq_false_iff, Bool.and_eq_false_iff] at hc12
      refine W_exit ?_
      simp only [thenQ, blockQ, loopQ, reduceIte, Nat.reduceEqDiff]
      refine hK7 _ ?_
      clear hK7
      refine W_seq (fun K18 hK18 => ?_)
      refine W_region hT hG [] [8] ?_
      rw [hnt]
      simp only [baseS, eq_self, implies_true, if_true, if_false, reduceIte, Nat.reduceBEq, Nat.reduceEqDiff, Nat.reduceLT, Nat.reduceAdd, reduceCtorEq, tyInt, tdInt, tyHull, tdHull, tyBoxes, tdBoxes, tyInts, tdInts, c_impl_PlanNext, c_impl_within, c_impl_fullSlots, c_slices_ContainsFunc_int_int, decide_false, room, Nat.reduceLeDiff, Nat.zero_le, storeAV, rowQ, ownInts, FT.of, FT.setf, elems, appAV_I, appI, srcI, ownI, anyI, sameR, appAV_P, appP, srcP, ownP, anyP]
      repeat (refine And.intro ?_ ?_; focus (first | exact ordP (by kernel_rfl) | with_reducible exact rfl | assumption | trivial | (simp only [inR]; omega) | omega | exact ⟨by omega, by omega⟩ | exact ⟨by omega, by omega, by omega⟩ | exact ⟨by omega, by omega, hcall⟩ | ((try simp only [decide_eq_true_eq, Bool.and_eq_true, ne_eq, decide_not, Bool.not_eq_true', Bool.not_eq_false', Bool.or_eq_false_iff, Bool.not_not, decide_eq_false_iff_not]); (try intro hh); (repeat' apply And.intro) <;> (first | omega | (simp only [inR]; omega) | assumption | exact ⟨by omega, by omega, hcall⟩ | exact hh.1 | exact hh.2 | exact hh.2.1 | exact hh.2.2 | exact hh.1.1 | exact hh.1.2 | (intro hq; exact ⟨hh, hq⟩) | (intro hq; exact ⟨hh.1, hq⟩) | (simp_all; done)))))
      refine hK18 _ ?_
      clear hK18
      refine W_re [(8, .own 3 .i64)] (by (try simp only [hnt, hnp]); rfl) ?_
      refine W_ret ?_
      simp only [thenQ, blockQ, loopQ, retQ, reduceIte, Nat.reduceEqDiff]
      refine ret1s 8 rfl rfl rfl ?_
      all_goals (
        first | (rw [safeR, if_neg hc12]; done) | (rw [safeR, if_pos hc4, hO, show i.toNat = (nextR b r t bs p).length by omega, List.take_length]; done))

def c_spec_SafeSlots : Ctr where
  modes := [.v .p, .v (.r .box), .v (.r .i64), .v .p]
  al := false
  run := fun xs os => match xs, os with
    | [.agg [.int b, .int r, .int t], .rs .box bs, .rs .i64 p, .int c], [] => some ⟨bs.length ≤ 9223372036854775807 ∧ p.length ≤ 9223372036854775807, .sl 0, [.sl 3 .i64 (safeR b r t bs p c)], []⟩
    | _, _ => none
theorem m_spec_SafeSlots : Meets Try.prog 68 c_spec_SafeSlots := by
  refine meets_of (T := tyT) tyOK Try.func68 (by rfl) rfl (by decide) ?_
  intro args owns R hrun hpre
  simp only [c_spec_SafeSlots] at hrun
  split at hrun
  case h_2 => cases hrun
  rename_i b r t bs p c
  cases hrun
  try dsimp only at hpre
  refine ⟨_, rfl, fun E hP hnt hnp => ?_⟩
  replace hnt : E.nt = 68 := hnt
  replace hnp : E.np = 4 := hnp
  have hT : ∀ t d, tyT t = some d → TyOK E.P t d := hP ▸ tyOK
  have hG : ∀ f C, Γof [(88, c_spec_l1In), (112, c_spec_ApartOf), (113, c_spec_ApartNeed), (114, c_spec_l11Class), (117, c_spec_PlanNext)] f = some C → Meets E.P f C := hΓof (by rw [hP]; exact ⟨m_spec_l1In, m_spec_ApartOf, m_spec_ApartNeed, m_spec_l11Class, m_spec_PlanNext, trivial⟩)
  try simp only [show Try.f68.ntmps = 68 from rfl]
  have hbs := hpre.1
  have hp := hpre.2
  have hnl := nextR_len b r t bs p
  refine W_seq (fun K1 hK1 => ?_)
  refine W_region hT hG [] [1, 2, 3, 4] ?_
  rw [hnt]
  simp only [baseS, eq_self, implies_true, if_true, if_false, reduceIte, Nat.reduceBEq, Nat.reduceEqDiff, Nat.reduceLT, Nat.reduceAdd, reduceCtorEq, tyInt, tdInt, tyHull, tdHull, tyBoxes, tdBoxes, tyInts, tdInts, c_spec_l1In, c_spec_ApartOf, c_spec_ApartNeed, c_spec_l11Class, c_spec_PlanNext, decide_false, room, Nat.reduceLeDiff, Nat.zero_le, storeAV, rowQ, ownInts, FT.of, FT.setf, elems, appAV_I, appI, srcI, ownI, anyI, sameR, appAV_P, appP, srcP, ownP, anyP]
  repeat (refine And.intro ?_ ?_; focus (first | exact ordP (by kernel_rfl) | with_reducible exact rfl | assumption | trivial | (simp only [inR]; omega) | omega | exact ⟨by omega, by omega⟩ | exact ⟨by omega, by omega, by omega⟩ | exact ⟨by omega, ⟨by omega, by omega⟩, hok.inb _⟩ | exact hok.inb _ | ((try simp only [decide_eq_true_eq, Bool.and_eq_true, ne_eq, decide_not, Bool.not_eq_true', Bool.not_eq_false', Bool.or_eq_false_iff, Bool.not_not, decide_eq_false_iff_not]); (try intro hh); (repeat' apply And.intro) <;> (first | omega | (simp only [inR]; omega) | assumption | exact ⟨by omega, ⟨by omega, by omega⟩, hok.inb _⟩ | exact hok.inb _ | exact hh.1 | exact hh.2 | exact hh.2.1 | exact hh.2.2 | exact hh.1.1 | exact hh.1.2 | (intro hq; exact ⟨hh, hq⟩) | (intro hq; exact ⟨hh.1, hq⟩) | (simp_all; done)))))
  refine hK1 _ ?_
  clear hK1
  refine W_seq (fun K2 hK2 => ?_)
  refine W_region hT hG [] [1, 2, 3, 4, 9] ?_
  rw [hnt]
  simp only [baseS, eq_self, implies_true, if_true, if_false, reduceIte, Nat.reduceBEq, Nat.reduceEqDiff, Nat.reduceLT, Nat.reduceAdd, reduceCtorEq, tyInt, tdInt, tyHull, tdHull, tyBoxes, tdBoxes, tyInts, tdInts, c_spec_l1In, c_spec_ApartOf, c_spec_ApartNeed, c_spec_l11Class, c_spec_PlanNext, decide_false, room, Nat.reduceLeDiff, Nat.zero_le, storeAV, rowQ, ownInts, FT.of, FT.setf, elems, appAV_I, appI, srcI, ownI, anyI, sameR, appAV_P, appP, srcP, ownP, anyP]
  repeat (refine And.intro ?_ ?_; focus (first | exact ordP (by kernel_rfl) | with_reducible exact rfl | assumption | trivial | (simp only [inR]; omega) | omega | exact ⟨by omega, by omega⟩ | exact ⟨by omega, by omega, by omega⟩ | exact ⟨by omega, ⟨by omega, by omega⟩, hok.inb _⟩ | exact hok.inb _ | ((try simp only [decide_eq_true_eq, Bool.and_eq_true, ne_eq, decide_not, Bool.not_eq_true', Bool.not_eq_false', Bool.or_eq_false_iff, Bool.not_not, decide_eq_false_iff_not]); (try intro hh); (repeat' apply And.intro) <;> (first | omega | (simp only [inR]; omega) | assumption | exact ⟨by omega, ⟨by omega, by omega⟩, hok.inb _⟩ | exact hok.inb _ | exact hh.1 | exact hh.2 | exact hh.2.1 | exact hh.2.2 | exact hh.1.1 | exact hh.1.2 | (intro hq; exact ⟨hh, hq⟩) | (intro hq; exact ⟨hh.1, hq⟩) | (simp_all; done)))))
  refine hK2 _ ?_
  clear hK2
  refine W_seq (fun K3 hK3 => ?_)
  refine W_region hT hG [] [1, 2, 3, 4, 9, 10] ?_
  rw [hnt]
  simp only [baseS, eq_self, implies_true, if_true, if_false, reduceIte, Nat.reduceBEq, Nat.reduceEqDiff, Nat.reduceLT, Nat.reduceAdd, reduceCtorEq, tyInt, tdInt, tyHull, tdHull, tyBoxes, tdBoxes, tyInts, tdInts, c_spec_l1In, c_spec_ApartOf, c_spec_ApartNeed, c_spec_l11Class, c_spec_PlanNext, decide_false, room, Nat.reduceLeDiff, Nat.zero_le, storeAV, rowQ, ownInts, FT.of, FT.setf, elems, appAV_I, appI, srcI, ownI, anyI, sameR, appAV_P, appP, srcP, ownP, anyP]
  repeat (refine And.intro ?_ ?_; focus (first | exact ordP (by kernel_rfl) | with_reducible exact rfl | assumption | trivial | (simp only [inR]; omega) | omega | exact ⟨by omega, by omega⟩ | exact ⟨by omega, by omega, by omega⟩ | exact ⟨by omega, ⟨by omega, by omega⟩, hok.inb _⟩ | exact hok.inb _ | ((try simp only [decide_eq_true_eq, Bool.and_eq_true, ne_eq, decide_not, Bool.not_eq_true', Bool.not_eq_false', Bool.or_eq_false_iff, Bool.not_not, decide_eq_false_iff_not]); (try intro hh); (repeat' apply And.intro) <;> (first | omega | (simp only [inR]; omega) | assumption | exact ⟨by omega, ⟨by omega, by omega⟩, hok.inb _⟩ | exact hok.inb _ | exact hh.1 | exact hh.2 | exact hh.2.1 | exact hh.2.2 | exact hh.1.1 | exact hh.1.2 | (intro hq; exact ⟨hh, hq⟩) | (intro hq; exact ⟨hh.1, hq⟩) | (simp_all; done)))))
  refine hK3 _ ?_
  clear hK3
  refine W_seq (fun K4 hK4 => ?_)
  refine W_seq (fun K5 hK5 => ?_)
  refine W_region hT hG [] [1, 2, 3, 4, 9, 10, 11] ?_
  rw [hnt]
  simp only [baseS, eq_self, implies_true, if_true, if_false, reduceIte, Nat.reduceBEq, Nat.reduceEqDiff, Nat.reduceLT, Nat.reduceAdd, reduceCtorEq, tyInt, tdInt, tyHull, tdHull, tyBoxes, tdBoxes, tyInts, tdInts, c_spec_l1In, c_spec_ApartOf, c_spec_ApartNeed, c_spec_l11Class, c_spec_PlanNext, decide_false, room, Nat.reduceLeDiff, Nat.zero_le, storeAV, rowQ, ownInts, FT.of, FT.setf, elems, appAV_I, appI, srcI, ownI, anyI, sameR, appAV_P, appP, srcP, ownP, anyP]
  repeat (refine And.intro ?_ ?_; focus (first | exact ordP (by kernel_rfl) | with_reducible exact rfl | assumption | trivial | (simp only [inR]; omega) | omega | exact ⟨by omega, by omega⟩ | exact ⟨by omega, by omega, by omega⟩ | exact ⟨by omega, ⟨by omega, by omega⟩, hok.inb _⟩ | exact hok.inb _ | ((try simp only [decide_eq_true_eq, Bool.and_eq_true, ne_eq, decide_not, Bool.not_eq_true', Bool.not_eq_false', Bool.or_eq_false_iff, Bool.not_not, decide_eq_false_iff_not]); (try intro hh); (repeat' apply And.intro) <;> (first | omega | (simp only [inR]; omega) | assumption | exact ⟨by omega, ⟨by omega, by omega⟩, hok.inb _⟩ | exact hok.inb _ | exact hh.1 | exact hh.2 | exact hh.2.1 | exact hh.2.2 | exact hh.1.1 | exact hh.1.2 | (intro hq; exact ⟨hh, hq⟩) | (intro hq; exact ⟨hh.1, hq⟩) | (simp_all; done)))))
  refine hK5 _ ?_
  clear hK5
  refine W_block ?_
  refine W_loop (α := Int × List Int) [(1, .as), (2, .as), (3, .as), (4, .as), (9, .own 3 .i64), (10, .fz .i64), (11, .as)] (fun x => ⟨[(1, .rs .box bs), (2, .rs .i64 p), (3, .int c), (4, .rp [.int b, .int r, .int t]), (9, .sl 9), (10, .rs .i64 (nextR b r t bs p)), (11, .int x.1)], [(9, some (.sl 3 .i64 x.2))], 68⟩) (fun x => 0 ≤ x.1 ∧ x.1 ≤ (nextR b r t bs p).length ∧ x.2 = ((nextR b r t bs p).take x.1.toNat).filter (safeS r t bs p c) ∧ (¬ (0 ≤ c ∧ c ≤ 3) → x.1 = 0)) (fun x => ((nextR b r t bs p).length - x.1).toNat) (0, []) ?_ ?_ ?_
  · (try simp only [hnt, hnp]); rfl
  · exact ⟨by omega, by omega, by simp, fun _ => rfl⟩
  rintro ⟨i, out⟩ ⟨hi0, hi1, hO, hZ⟩
  dsimp only at hi0 hi1 hO hZ ⊢
  have hg := fun h => @nextR_get b r t bs p i hi0 h
  have hfs := filter_step (P := safeS r t bs p c) (l := nextR b r t bs p) (i := i) hi0
  refine W_seq (fun K7 hK7 => ?_)
  refine W_seq (fun K8 hK8 => ?_)
  refine W_region hT hG [] [1, 2, 3, 4, 9, 10, 11, 26] ?_
  rw [hnt]
  simp only [baseS, eq_self, implies_true, if_true, if_false, reduceIte, Nat.reduceBEq, Nat.reduceEqDiff, Nat.reduceLT, Nat.reduceAdd, reduceCtorEq, tyInt, tdInt, tyHull, tdHull, tyBoxes, tdBoxes, tyInts, tdInts, c_spec_l1In, c_spec_ApartOf, c_spec_ApartNeed, c_spec_l11Class, c_spec_PlanNext, decide_false, room, Nat.reduceLeDiff, Nat.zero_le, storeAV, rowQ, ownInts, FT.of, FT.setf, elems, appAV_I, appI, srcI, ownI, anyI, sameR, appAV_P, appP, srcP, ownP, anyP]
  repeat (refine And.intro ?_ ?_; focus (first | exact ordP (by kernel_rfl) | with_reducible exact rfl | assumption | trivial | (simp only [inR]; omega) | omega | exact ⟨by omega, by omega⟩ | exact ⟨by omega, by omega, by omega⟩ | exact ⟨by omega, ⟨by omega, by omega⟩, hok.inb _⟩ | exact hok.inb _ | ((try simp only [decide_eq_true_eq, Bool.and_eq_true, ne_eq, decide_not, Bool.not_eq_true', Bool.not_eq_false', Bool.or_eq_false_iff, Bool.not_not, decide_eq_false_iff_not]); (try intro hh); (repeat' apply And.intro) <;> (first | omega | (simp only [inR]; omega) | assumption | exact ⟨by omega, ⟨by omega, by omega⟩, hok.inb _⟩ | exact hok.inb _ | exact hh.1 | exact hh.2 | exact hh.2.1 | exact hh.2.2 | exact hh.1.1 | exact hh.1.2 | (intro hq; exact ⟨hh, hq⟩) | (intro hq; exact ⟨hh.1, hq⟩) | (simp_all; done)))))
  refine hK8 _ ?_
  clear hK8
  refine W_cond (b := _) rfl (fun hc9 => ?_) (fun hc9 => ?_)
  · try simp only [decide_eq_true_eq, decide_eq_false_iff_not, ne_eq, Decidable.not_not, Bool.not_eq_true', Bool.not_eq_false', Bool.or_eq_true, Bool.and_eq_true, Bool.or_eq_false_iff, Bool.and_eq_false_iff] at hc9
    refine W_skip ?_
    simp only [thenQ, blockQ, loopQ, reduceIte, Nat.reduceEqDiff]
    refine hK7 _ ?_
    clear hK7
    refine W_seq (fun K10 hK10 => ?_)
    refine W_block ?_
    refine W_seq (fun K11 hK11 => ?_)
    refine W_region hT hG [] [1, 2, 3, 4, 9, 10, 11, 12] ?_
    rw [hnt]
    simp only [baseS, eq_self, implies_true, if_true, if_false, reduceIte, Nat.reduceBEq, Nat.reduceEqDiff, Nat.reduceLT, Nat.reduceAdd, reduceCtorEq, tyInt, tdInt, tyHull, tdHull, tyBoxes, tdBoxes, tyInts, tdInts, c_spec_l1In, c_spec_ApartOf, c_spec_ApartNeed, c_spec_l11Class, c_spec_PlanNext, decide_false, room, Nat.reduceLeDiff, Nat.zero_le, storeAV, rowQ, ownInts, FT.of, FT.setf, elems, appAV_I, appI, srcI, ownI, anyI, sameR, appAV_P, appP, srcP, ownP, anyP]
    repeat (refine And.intro ?_ ?_; focus (first | exact ordP (by kernel_rfl) | with_reducible exact rfl | assumption | trivial | (simp only [inR]; omega) | omega | exact ⟨by omega, by omega⟩ | exact ⟨by omega, by omega, by omega⟩ | exact ⟨by omega, ⟨by omega, by omega⟩, hok.inb _⟩ | exact hok.inb _ | ((try simp only [decide_eq_true_eq, Bool.and_eq_true, ne_eq, decide_not, Bool.not_eq_true', Bool.not_eq_false', Bool.or_eq_false_iff, Bool.not_not, decide_eq_false_iff_not]); (try intro hh); (repeat' apply And.intro) <;> (first | omega | (simp only [inR]; omega) | assumption | exact ⟨by omega, ⟨by omega, by omega⟩, hok.inb _⟩ | exact hok.inb _ | exact hh.1 | exact hh.2 | exact hh.2.1 | exact hh.2.2 | exact hh.1.1 | exact hh.1.2 | (intro hq; exact ⟨hh, hq⟩) | (intro hq; exact ⟨hh.1, hq⟩) | (simp_all; done)))))
    refine hK11 _ ?_
    clear hK11
    refine W_seq (fun K12 hK12 => ?_)
    refine W_seq (fun K13 hK13 => ?_)
    refine W_region hT hG [] [1, 2, 3, 4, 9, 10, 11, 12, 13] ?_
    rw [hnt]
    simp only [baseS, eq_self, implies_true, if_true, if_false, reduceIte, Nat.reduceBEq, Nat.reduceEqDiff, Nat.reduceLT, Nat.reduceAdd, reduceCtorEq, tyInt, tdInt, tyHull, tdHull, tyBoxes, tdBoxes, tyInts, tdInts, c_spec_l1In, c_spec_ApartOf, c_spec_ApartNeed, c_spec_l11Class, c_spec_PlanNext, decide_false, room, Nat.reduceLeDiff, Nat.zero_le, storeAV, rowQ, ownInts, FT.of, FT.setf, elems, appAV_I, appI, srcI, ownI, anyI, sameR, appAV_P, appP, srcP, ownP, anyP]
    repeat (refine And.intro ?_ ?_; focus (first | exact ordP (by kernel_rfl) | with_reducible exact rfl | assumption | trivial | (simp only [inR]; omega) | omega | exact ⟨by omega, by omega⟩ | exact ⟨by omega, by omega, by omega⟩ | exact ⟨by omega, ⟨by omega, by omega⟩, hok.inb _⟩ | exact hok.inb _ | ((try simp only [decide_eq_true_eq, Bool.and_eq_true, ne_eq, decide_not, Bool.not_eq_true', Bool.not_eq_false', Bool.or_eq_false_iff, Bool.not_not, decide_eq_false_iff_not]); (try intro hh); (repeat' apply And.intro) <;> (first | omega | (simp only [inR]; omega) | assumption | exact ⟨by omega, ⟨by omega, by omega⟩, hok.inb _⟩ | exact hok.inb _ | exact hh.1 | exact hh.2 | exact hh.2.1 | exact hh.2.2 | exact hh.1.1 | exact hh.1.2 | (intro hq; exact ⟨hh, hq⟩) | (intro hq; exact ⟨hh.1, hq⟩) | (simp_all; done)))))
    refine hK13 _ ?_
    clear hK13
    refine W_block ?_
    refine W_loop (α := Int × Bool) [(1, .as), (2, .as), (3, .as), (4, .as), (9, .own 3 .i64), (10, .as), (11, .as), (12, .as), (13, .as)] (fun y => ⟨[(1, .rs .box bs), (2, .rs .i64 p), (3, .int c), (4, .rp [.int b, .int r, .int t]), (9, .sl 9), (10, .rs .i64 (nextR b r t bs p)), (11, .int i), (12, .bool y.2), (13, .int y.1)], [(9, some (.sl 3 .i64 out))], 68⟩) (fun y => 0 ≤ y.1 ∧ y.1 ≤ p.length ∧ y.2 = !(List.range y.1.toNat).any (nearTo r t bs p c ((nextR b r t bs p).getD i.toNat 0))) (fun y => (p.length - y.1).toNat) (0, true) ?_ ?_ ?_
    · (try simp only [hnt, hnp]); rfl
    · exact ⟨by omega, by omega, by simp⟩
    rintro ⟨j, ok⟩ ⟨hj0, hj1, hJ⟩
    dsimp only at hj0 hj1 hJ ⊢
    have hcl := hc9.2
    have hg1 := hg hc9.1
    have hok := planB_ok hg1.1
    have hle := hok.le
    have hap : j < p.length → apartOf b r t ((nextR b r t bs p).getD i.toNat 0) j = apD r t ((nextR b r t bs p).getD i.toNat 0) j := fun h => by
      unfold apartOf; rw [if_pos (by rw [slot_in hok hg1.2.1 hg1.2.2, slot_in hok hj0 h]; rfl)]
    refine W_seq (fun K15 hK15 => ?_)
    refine W_seq (fun K16 hK16 => ?_)
    refine W_region hT hG [] [1, 2, 3, 4, 9, 10, 11, 12, 13, 32] ?_
    rw [hnt]
    simp only [baseS, eq_self, implies_true, if_true, if_false, reduceIte, Nat.reduceBEq, Nat.reduceEqDiff, Nat.reduceLT, Nat.reduceAdd, reduceCtorEq, tyInt, tdInt, tyHull, tdHull, tyBoxes, tdBoxes, tyInts, tdInts, c_spec_l1In, c_spec_ApartOf, c_spec_ApartNeed, c_spec_l11Class, c_spec_PlanNext, decide_false, room, Nat.reduceLeDiff, Nat.zero_le, storeAV, rowQ, ownInts, FT.of, FT.setf, elems, appAV_I, appI, srcI, ownI, anyI, sameR, appAV_P, appP, srcP, ownP, anyP]
    repeat (refine And.intro ?_ ?_; focus (first | exact ordP (by kernel_rfl) | with_reducible exact rfl | assumption | trivial | (simp only [inR]; omega) | omega | exact ⟨by omega, by omega⟩ | exact ⟨by omega, by omega, by omega⟩ | exact ⟨by omega, ⟨by omega, by omega⟩, hok.inb _⟩ | exact hok.inb _ | ((try simp only [decide_eq_true_eq, Bool.and_eq_true, ne_eq, decide_not, Bool.not_eq_true', Bool.not_eq_false', Bool.or_eq_false_iff, Bool.not_not, decide_eq_false_iff_not]); (try intro hh); (repeat' apply And.intro) <;> (first | omega | (simp only [inR]; omega) | assumption | exact ⟨by omega, ⟨by omega, by omega⟩, hok.inb _⟩ | exact hok.inb _ | exact hh.1 | exact hh.2 | exact hh.2.1 | exact hh.2.2 | exact hh.1.1 | exact hh.1.2 | (intro hq; exact ⟨hh, hq⟩) | (intro hq; exact ⟨hh.1, hq⟩) | (simp_all; done)))))
    refine hK16 _ ?_
    clear hK16
    refine W_cond (b := _) rfl (fun hc17 => ?_) (fun hc17 => ?_)
    · try simp only [decide_eq_true_eq, decide_eq_false_iff_not, ne_eq, Decidable.not_not, Bool.not_eq_true', Bool.not_eq_false', Bool.or_eq_true, Bool.and_eq_true, Bool.or_eq_false_iff, Bool.and_eq_false_iff] at hc17
      refine W_skip ?_
      simp only [thenQ, blockQ, loopQ, reduceIte, Nat.reduceEqDiff]
      refine hK15 _ ?_
      clear hK15
      refine W_seq (fun K18 hK18 => ?_)
      refine W_block ?_
      refine W_region_draw hT hG (by rw [hP]; exact draws_ok) [] [1, 2, 3, 4, 9, 10, 11, 12, 13] ?_
      rw [hnt]
      simp only [baseS, eq_self, implies_true, if_true, if_false, reduceIte, Nat.reduceBEq, Nat.reduceEqDiff, Nat.reduceLT, Nat.reduceAdd, reduceCtorEq, tyInt, tdInt, tyHull, tdHull, tyBoxes, tdBoxes, tyInts, tdInts, c_spec_l1In, c_spec_ApartOf, c_spec_ApartNeed, c_spec_l11Class, c_spec_PlanNext, decide_false, room, Nat.reduceLeDiff, Nat.zero_le, storeAV, rowQ, ownInts, FT.of, FT.setf, elems, appAV_I, appI, srcI, ownI, anyI, sameR, appAV_P, appP, srcP, ownP, anyP]
      repeat (refine And.intro ?_ ?_; focus (first | exact ordP (by kernel_rfl) | with_reducible exact rfl | assumption | trivial | (simp only [inR]; omega) | omega | exact ⟨by omega, by omega⟩ | exact ⟨by omega, by omega, by omega⟩ | exact ⟨by omega, ⟨by omega, by omega⟩, hok.inb _⟩ | exact hok.inb _ | ((try simp only [decide_eq_true_eq, Bool.and_eq_true, ne_eq, decide_not, Bool.not_eq_true', Bool.not_eq_false', Bool.or_eq_false_iff, Bool.not_not, decide_eq_false_iff_not]); (try intro hh); (repeat' apply And.intro) <;> (first | omega | (simp only [inR]; omega) | assumption | exact ⟨by omega, ⟨by omega, by omega⟩, hok.inb _⟩ | exact hok.inb _ | exact hh.1 | exact hh.2 | exact hh.2.1 | exact hh.2.2 | exact hh.1.1 | exact hh.1.2 | (intro hq; exact ⟨hh, hq⟩) | (intro hq; exact ⟨hh.1, hq⟩) | (simp_all; done)))))
      refine hK18 _ ?_
      clear hK18
      refine W_region hT hG [] [1, 2, 3, 4, 9, 10, 11, 12, 13] ?_
      rw [hnt]
      simp only [baseS, eq_self, implies_true, if_true, if_false, reduceIte, Nat.reduceBEq, Nat.reduceEqDiff, Nat.reduceLT, Nat.reduceAdd, reduceCtorEq, tyInt, tdInt, tyHull, tdHull, tyBoxes, tdBoxes, tyInts, tdInts, c_spec_l1In, c_spec_ApartOf, c_spec_ApartNeed, c_spec_l11Class, c_spec_PlanNext, decide_false, room, Nat.reduceLeDiff, Nat.zero_le, storeAV, rowQ, ownInts, FT.of, FT.setf, elems, appAV_I, appI, srcI, ownI, anyI, sameR, appAV_P, appP, srcP, ownP, anyP]
      repeat (refine And.intro ?_ ?_; focus (first | exact ordP (by kernel_rfl) | with_reducible exact rfl | assumption | trivial | (simp only [inR]; omega) | omega | exact ⟨by omega, by omega⟩ | exact ⟨by omega, by omega, by omega⟩ | exact ⟨by omega, ⟨by omega, by omega⟩, hok.inb _⟩ | exact hok.inb _ | ((try simp only [decide_eq_true_eq, Bool.and_eq_true, ne_eq, decide_not, Bool.not_eq_true', Bool.not_eq_false', Bool.or_eq_false_iff, Bool.not_not, decide_eq_false_iff_not]); (try intro hh); (repeat' apply And.intro) <;> (first | omega | (simp only [inR]; omega) | assumption | exact ⟨by omega, ⟨by omega, by omega⟩, hok.inb _⟩ | exact hok.inb _ | exact hh.1 | exact hh.2 | exact hh.2.1 | exact hh.2.2 | exact hh.1.1 | exact hh.1.2 | (intro hq; exact ⟨hh, hq⟩) | (intro hq; exact ⟨hh.1, hq⟩) | (simp_all; done)))))
      refine ⟨(j + 1, _), (by (try simp only [hnt, hnp]); rfl), ⟨by dsimp only; omega, by dsimp only; omega, ?_⟩, by dsimp only; omega⟩
      dsimp only
      rw [any_step _ hj0, nearTo, hap hc17, hJ, Int.toNat_of_nonneg hj0]
      generalize (List.range j.toNat).any _ = G
      exact safe_step G
    · try simp only [decide_eq_true_eq, decide_eq_false_iff_not, ne_eq, Decidable.not_not, Bool.not_eq_true', Bool.not_eq_false', Bool.or_eq_true, Bool.and_eq_true, Bool.or_eq_false_iff, Bool.and_eq_false_iff] at hc17
      refine W_exit ?_
      simp only [thenQ, blockQ, loopQ, reduceIte, Nat.reduceEqDiff]
      refine hK12 _ ?_
      clear hK12
      refine W_seq (fun K19 hK19 => ?_)
      refine W_region hT hG [] [1, 2, 3, 4, 9, 10, 11, 59] ?_
      rw [hnt]
      simp only [baseS, eq_self, implies_true, if_true, if_false, reduceIte, Nat.reduceBEq, Nat.reduceEqDiff, Nat.reduceLT, Nat.reduceAdd, reduceCtorEq, tyInt, tdInt, tyHull, tdHull, tyBoxes, tdBoxes, tyInts, tdInts, c_spec_l1In, c_spec_ApartOf, c_spec_ApartNeed, c_spec_l11Class, c_spec_PlanNext, decide_false, room, Nat.reduceLeDiff, Nat.zero_le, storeAV, rowQ, ownInts, FT.of, FT.setf, elems, appAV_I, appI, srcI, ownI, anyI, sameR, appAV_P, appP, srcP, ownP, anyP]
      repeat (refine And.intro ?_ ?_; focus (first | exact ordP (by kernel_rfl) | with_reducible exact rfl | assumption | trivial | (simp only [inR]; omega) | omega | exact ⟨by omega, by omega⟩ | exact ⟨by omega, by omega, by omega⟩ | exact ⟨by omega, ⟨by omega, by omega⟩, hok.inb _⟩ | exact hok.inb _ | ((try simp only [decide_eq_true_eq, Bool.and_eq_true, ne_eq, decide_not, Bool.not_eq_true', Bool.not_eq_false', Bool.or_eq_false_iff, Bool.not_not, decide_eq_false_iff_not]); (try intro hh); (repeat' apply And.intro) <;> (first | omega | (simp only [inR]; omega) | assumption | exact ⟨by omega, ⟨by omega, by omega⟩, hok.inb _⟩ | exact hok.inb _ | exact hh.1 | exact hh.2 | exact hh.2.1 | exact hh.2.2 | exact hh.1.1 | exact hh.1.2 | (intro hq; exact ⟨hh, hq⟩) | (intro hq; exact ⟨hh.1, hq⟩) | (simp_all; done)))))
      refine hK19 _ ?_
      clear hK19
      refine W_cond (b := _) rfl (fun hc20 => ?_) (fun hc20 => ?_)
      · try simp only [decide_eq_true_eq, decide_eq_false_iff_not, ne_eq, Decidable.not_not, Bool.not_eq_true', Bool.not_eq_false', Bool.or_eq_true, Bool.and_eq_true, Bool.or_eq_false_iff, Bool.and_eq_false_iff] at hc20
        refine W_region hT hG [] [1, 2, 3, 4, 9, 10, 11] ?_
        rw [hnt]
        have hol : out.length ≤ 36 := by
          rw [hO]
          have := List.length_filter_le (safeS r t bs p c) ((nextR b r t bs p).take i.toNat)
          rw [List.length_take] at this; omega
        simp only [baseS, eq_self, implies_true, if_true, if_false, reduceIte, Nat.reduceBEq, Nat.reduceEqDiff, Nat.reduceLT, Nat.reduceAdd, reduceCtorEq, tyInt, tdInt, tyHull, tdHull, tyBoxes, tdBoxes, tyInts, tdInts, c_spec_l1In, c_spec_ApartOf, c_spec_ApartNeed, c_spec_l11Class, c_spec_PlanNext, decide_false, room, Nat.reduceLeDiff, Nat.zero_le, storeAV, rowQ, ownInts, FT.of, FT.setf, elems, appAV_I, appI, srcI, ownI, anyI, sameR, appAV_P, appP, srcP, ownP, anyP]
        repeat (refine And.intro ?_ ?_; focus (first | exact ordP (by kernel_rfl) | with_reducible exact rfl | assumption | trivial | (simp only [inR]; omega) | omega | exact ⟨by omega, by omega⟩ | exact ⟨by omega, by omega, by omega⟩ | exact ⟨by omega, ⟨by omega, by omega⟩, hok.inb _⟩ | exact hok.inb _ | ((try simp only [decide_eq_true_eq, Bool.and_eq_true, ne_eq, decide_not, Bool.not_eq_true', Bool.not_eq_false', Bool.or_eq_false_iff, Bool.not_not, decide_eq_false_iff_not]); (try intro hh); (repeat' apply And.intro) <;> (first | omega | (simp only [inR]; omega) | assumption | exact ⟨by omega, ⟨by omega, by omega⟩, hok.inb _⟩ | exact hok.inb _ | exact hh.1 | exact hh.2 | exact hh.2.1 | exact hh.2.2 | exact hh.1.1 | exact hh.1.2 | (intro hq; exact ⟨hh, hq⟩) | (intro hq; exact ⟨hh.1, hq⟩) | (simp_all; done)))))
        refine hK10 _ ?_
        clear hK10
        refine W_region hT hG [] [1, 2, 3, 4, 9, 10, 11] ?_
        rw [hnt]
        simp only [baseS, eq_self, implies_true, if_true, if_false, reduceIte, Nat.reduceBEq, Nat.reduceEqDiff, Nat.reduceLT, Nat.reduceAdd, reduceCtorEq, tyInt, tdInt, tyHull, tdHull, tyBoxes, tdBoxes, tyInts, tdInts, c_spec_l1In, c_spec_ApartOf, c_spec_ApartNeed, c_spec_l11Class, c_spec_PlanNext, decide_false, room, Nat.reduceLeDiff, Nat.zero_le, storeAV, rowQ, ownInts, FT.of, FT.setf, elems, appAV_I, appI, srcI, ownI, anyI, sameR, appAV_P, appP, srcP, ownP, anyP]
        repeat (refine And.intro ?_ ?_; focus (first | exact ordP (by kernel_rfl) | with_reducible exact rfl | assumption | trivial | (simp only [inR]; omega) | omega | exact ⟨by omega, by omega⟩ | exact ⟨by omega, by omega, by omega⟩ | exact ⟨by omega, ⟨by omega, by omega⟩, hok.inb _⟩ | exact hok.inb _ | ((try simp only [decide_eq_true_eq, Bool.and_eq_true, ne_eq, decide_not, Bool.not_eq_true', Bool.not_eq_false', Bool.or_eq_false_iff, Bool.not_not, decide_eq_false_iff_not]); (try intro hh); (repeat' apply And.intro) <;> (first | omega | (simp only [inR]; omega) | assumption | exact ⟨by omega, ⟨by omega, by omega⟩, hok.inb _⟩ | exact hok.inb _ | exact hh.1 | exact hh.2 | exact hh.2.1 | exact hh.2.2 | exact hh.1.1 | exact hh.1.2 | (intro hq; exact ⟨hh, hq⟩) | (intro hq; exact ⟨hh.1, hq⟩) | (simp_all; done)))))
        first
        | (refine ⟨(i + 1, out ++ [(nextR b r t bs p).getD i.toNat 0]), (by (try simp only [hnt, hnp]); rfl), ⟨by dsimp only; omega, by dsimp only; omega, ?_, fun h => absurd hcl h⟩, by dsimp only; omega⟩; dsimp only; rw [hfs (by omega), if_pos (by rw [safeS, ← show j.toNat = p.length by omega, ← hJ]; exact hc20), hO]; done)
        | (refine ⟨(i + 1, out), (by (try simp only [hnt, hnp]); rfl), ⟨by dsimp only; omega, by dsimp only; omega, ?_, fun h => absurd hcl h⟩, by dsimp only; omega⟩; dsimp only; rw [hfs (by omega), if_neg (by rw [safeS, ← show j.toNat = p.length by omega, ← hJ, hc20]; simp), List.append_nil, hO]; done)
      · try simp only [decide_eq_true_eq, decide_eq_false_iff_not, ne_eq, Decidable.not_not, Bool.not_eq_true', Bool.not_eq_false', Bool.or_eq_true, Bool.and_eq_true, Bool.or_eq_false_iff, Bool.and_eq_false_iff] at hc20
        refine W_skip ?_
        simp only [thenQ, blockQ, loopQ, reduceIte, Nat.reduceEqDiff]
        refine hK10 _ ?_
        clear hK10
        refine W_region hT hG [] [1, 2, 3, 4, 9, 10, 11] ?_
        rw [hnt]
        simp only [baseS, eq_self, implies_true, if_true, if_false, reduceIte, Nat.reduceBEq, Nat.reduceEqDiff, Nat.reduceLT, Nat.reduceAdd, reduceCtorEq, tyInt, tdInt, tyHull, tdHull, tyBoxes, tdBoxes, tyInts, tdInts, c_spec_l1In, c_spec_ApartOf, c_spec_ApartNeed, c_spec_l11Class, c_spec_PlanNext, decide_false, room, Nat.reduceLeDiff, Nat.zero_le, storeAV, rowQ, ownInts, FT.of, FT.setf, elems, appAV_I, appI, srcI, ownI, anyI, sameR, appAV_P, appP, srcP, ownP, anyP]
        repeat (refine And.intro ?_ ?_; focus (first | exact ordP (by kernel_rfl) | with_reducible exact rfl | assumption | trivial | (simp only [inR]; omega) | omega | exact ⟨by omega, by omega⟩ | exact ⟨by omega, by omega, by omega⟩ | exact ⟨by omega, ⟨by omega, by omega⟩, hok.inb _⟩ | exact hok.inb _ | ((try simp only [decide_eq_true_eq, Bool.and_eq_true, ne_eq, decide_not, Bool.not_eq_true', Bool.not_eq_false', Bool.or_eq_false_iff, Bool.not_not, decide_eq_false_iff_not]); (try intro hh); (repeat' apply And.intro) <;> (first | omega | (simp only [inR]; omega) | assumption | exact ⟨by omega, ⟨by omega, by omega⟩, hok.inb _⟩ | exact hok.inb _ | exact hh.1 | exact hh.2 | exact hh.2.1 | exact hh.2.2 | exact hh.1.1 | exact hh.1.2 | (intro hq; exact ⟨hh, hq⟩) | (intro hq; exact ⟨hh.1, hq⟩) | (simp_all; done)))))
        first
        | (refine ⟨(i + 1, out ++ [(nextR b r t bs p).getD i.toNat 0]), (by (try simp only [hnt, hnp]); rfl), ⟨by dsimp only; omega, by dsimp only; omega, ?_, fun h => absurd hcl h⟩, by dsimp only; omega⟩; dsimp only; rw [hfs (by omega), if_pos (by rw [safeS, ← show j.toNat = p.length by omega, ← hJ]; exact hc20), hO]; done)
        | (refine ⟨(i + 1, out), (by (try simp only [hnt, hnp]); rfl), ⟨by dsimp only; omega, by dsimp only; omega, ?_, fun h => absurd hcl h⟩, by dsimp only; omega⟩; dsimp only; rw [hfs (by omega), if_neg (by rw [safeS, ← show j.toNat = p.length by omega, ← hJ, hc20]; simp), List.append_nil, hO]; done)
  · try simp only [decide_eq_true_eq, decide_eq_false_iff_not, ne_eq, Decidable.not_not, Bool.not_eq_true', Bool.not_eq_false', Bool.or_eq_true, Bool.and_eq_true, Bool.or_eq_false_iff, Bool.and_eq_false_iff] at hc9
    refine W_exit ?_
    simp only [thenQ, blockQ, loopQ, reduceIte, Nat.reduceEqDiff]
    refine hK4 _ ?_
    clear hK4
    refine W_seq (fun K21 hK21 => ?_)
    refine W_region hT hG [] [8] ?_
    rw [hnt]
    simp only [baseS, eq_self, implies_true, if_true, if_false, reduceIte, Nat.reduceBEq, Nat.reduceEqDiff, Nat.reduceLT, Nat.reduceAdd, reduceCtorEq, tyInt, tdInt, tyHull, tdHull, tyBoxes, tdBoxes, tyInts, tdInts, c_spec_l1In, c_spec_ApartOf, c_spec_ApartNeed, c_spec_l11Class, c_spec_PlanNext, decide_false, room, Nat.reduceLeDiff, Nat.zero_le, storeAV, rowQ, ownInts, FT.of, FT.setf, elems, appAV_I, appI, srcI, ownI, anyI, sameR, appAV_P, appP, srcP, ownP, anyP]
    repeat (refine And.intro ?_ ?_; focus (first | exact ordP (by kernel_rfl) | with_reducible exact rfl | assumption | trivial | (simp only [inR]; omega) | omega | exact ⟨by omega, by omega⟩ | exact ⟨by omega, by omega, by omega⟩ | exact ⟨by omega, ⟨by omega, by omega⟩, hok.inb _⟩ | exact hok.inb _ | ((try simp only [decide_eq_true_eq, Bool.and_eq_true, ne_eq, decide_not, Bool.not_eq_true', Bool.not_eq_false', Bool.or_eq_false_iff, Bool.not_not, decide_eq_false_iff_not]); (try intro hh); (repeat' apply And.intro) <;> (first | omega | (simp only [inR]; omega) | assumption | exact ⟨by omega, ⟨by omega, by omega⟩, hok.inb _⟩ | exact hok.inb _ | exact hh.1 | exact hh.2 | exact hh.2.1 | exact hh.2.2 | exact hh.1.1 | exact hh.1.2 | (intro hq; exact ⟨hh, hq⟩) | (intro hq; exact ⟨hh.1, hq⟩) | (simp_all; done)))))
    refine hK21 _ ?_
    clear hK21
    refine W_re [(8, .own 3 .i64)] (by (try simp only [hnt, hnp]); rfl) ?_
    refine W_ret ?_
    simp only [thenQ, blockQ, loopQ, retQ, reduceIte, Nat.reduceEqDiff]
    refine ret1s 8 rfl rfl rfl ?_
    all_goals (
      rw [safeR]
      by_cases hcl : 0 ≤ c ∧ c ≤ 3
      · rw [if_pos hcl, hO, show i.toNat = (nextR b r t bs p).length by (rcases hc9 with h | h; omega; exact absurd hcl h), List.take_length]
      · rw [if_neg hcl, hO, hZ hcl]; simp)

end Go.Proofs.Ytjkghldkemoddaa
