/- Walks over the marks of slices of integers. No condition. -/
import Derived.Test.YtpiaeckkjdcifaaInts
namespace Go.Proofs.Ytpiaeckkjdcifaa
open Go
set_option linter.unusedVariables false
set_option linter.unusedSimpArgs false

/-- The marks: numbers from k on. -/
def markL (n : Nat) (k : Int) : List Int := (List.range n).map fun (j : Nat) => k + (j : Int)
def heldF (a : List Int) (k : Int) : Int := if a = markL a.length k then k + a.length else -1
theorem markL_len (n : Nat) (k : Int) : (markL n k).length = n := by simp [markL]
theorem heldF_mark (n : Nat) (k : Int) : heldF (markL n k) k = k + n := by simp [heldF, markL_len]
theorem markL_of {l : List Int} {n : Nat} {k i : Int} (h1 : l.length = n) (h2 : ∀ j : Nat, (j : Int) < i → l.getD j 0 = k + j) (h3 : ¬ i < n) : l = markL n k := by
  apply List.ext_getElem
  · rw [markL_len, h1]
  · intro j h4 h5
    have := h2 j (by omega)
    rw [List.getD_eq_getElem?_getD, List.getElem?_eq_getElem h4] at this
    simpa [markL] using this
theorem mark_step {l : List Int} {n : Nat} {k i : Int} (h0 : 0 ≤ i) (h : i < n) (h1 : l.length = n) (h2 : ∀ j : Nat, (j : Int) < i → l.getD j 0 = k + j) : ∀ j : Nat, (j : Int) < i + 1 → (l.set i.toNat (k + i)).getD j 0 = k + j := by
  intro j hj
  have hi : i.toNat < l.length := by omega
  by_cases e : (j : Int) = i
  · have : j = i.toNat := by omega
    subst this
    simp [List.getD_eq_getElem?_getD, hi]; omega
  · have := h2 j (by omega)
    rw [List.getD_eq_getElem?_getD] at this ⊢
    rw [List.getElem?_set_ne (by omega)]
    exact this
theorem held_next {a : List Int} {k i : Int} (h0 : 0 ≤ i) (h2 : ∀ j : Nat, (j : Int) < i → a.getD j 0 = k + j) (h : a.getD i.toNat 0 = k + i) : ∀ j : Nat, (j : Int) < i + 1 → a.getD j 0 = k + j := by
  intro j hj
  by_cases e : (j : Int) = i
  · have : j = i.toNat := by omega
    subst this; omega
  · exact h2 j (by omega)
theorem held_yes {a : List Int} {k i : Int} (h1 : i ≤ a.length) (h2 : ∀ j : Nat, (j : Int) < i → a.getD j 0 = k + j) (h3 : ¬ i < a.length) : k + i = heldF a k := by
  rw [heldF, if_pos (markL_of rfl h2 h3)]; omega
theorem held_no {a : List Int} {k i : Int} (h0 : 0 ≤ i) (h1 : i < a.length) (h : ¬ a.getD i.toNat 0 = k + i) : -1 = heldF a k := by
  rw [heldF, if_neg]
  intro e
  apply h
  have hi : i.toNat < a.length := by omega
  rw [e]
  simp [markL, List.getD_eq_getElem?_getD, hi]; omega

def c_laws_markIntS : Ctr where
  modes := [.m, .v .p]
  al := false
  run := fun xs os => match xs, os with
    | [.int k], [.sl 3 .i64 a] => some ⟨(0 ≤ k ∧ k ≤ 4611686018427387904) ∧ a.length ≤ 1099511627776, .int (k + a.length), [], [.sl 3 .i64 (markL a.length k)]⟩
    | _, _ => none
theorem m_laws_markIntS : Meets Try.prog 29 c_laws_markIntS := by
  refine meets_of (T := tyT) tyOK Try.func29 (by rfl) rfl (by decide) ?_
  intro args owns R hrun hpre
  simp only [c_laws_markIntS] at hrun
  split at hrun
  case h_2 => cases hrun
  rename_i k a
  cases hrun
  try dsimp only at hpre
  refine ⟨⟨[(0, .sl 0), (1, .int k)], [(0, some (.sl 3 .i64 a))], 19⟩, rfl, fun E hP hnt hnp => ?_⟩
  replace hnt : E.nt = 19 := hnt
  replace hnp : E.np = 2 := hnp
  have hT : ∀ t d, tyT t = some d → TyOK E.P t d := hP ▸ tyOK
  have hG : ∀ f C, Γof [] f = some C → Meets E.P f C := hΓof (by rw [hP]; exact trivial)
  try simp only [show Try.f29.ntmps = 19 from rfl]
  have hk := hpre.1
  have ha := hpre.2
  refine W_seq (fun K1 hK1 => ?_)
  refine W_region hT hG [] [0, 1] ?_
  rw [hnt]
  simp only [baseS, eq_self, implies_true, if_true, if_false, reduceIte, Nat.reduceBEq, Nat.reduceEqDiff, Nat.reduceLT, Nat.reduceAdd, reduceCtorEq, tyInt, tdInt, tyInts, tdInts, storeAV, rowQ, ownInts, FT.of, FT.setf, List.nil_append, Int.toNat_natCast, List.set_cons_zero, ne_eq, not_false_eq_true]
  repeat (refine And.intro ?_ ?_; focus (first | exact ordP (by kernel_rfl) | with_reducible exact rfl | assumption | trivial | (simp only [inR]; omega) | omega | (intro hh; (try obtain ⟨hh1, hh2⟩ := hh); (repeat' apply And.intro) <;> first | assumption | (simp only [inR]; omega) | omega | (intros; (repeat' apply And.intro) <;> first | assumption | (simp only [inR]; omega) | omega)) | (intros; (repeat' apply And.intro) <;> first | assumption | (simp only [inR]; omega) | omega | (simp_all; done) | (simp_all [inR]; omega))))
  refine hK1 _ ?_
  clear hK1
  refine W_seq (fun K2 hK2 => ?_)
  refine W_seq (fun K3 hK3 => ?_)
  refine W_region hT hG [] [0, 1, 5] ?_
  rw [hnt]
  simp only [baseS, eq_self, implies_true, if_true, if_false, reduceIte, Nat.reduceBEq, Nat.reduceEqDiff, Nat.reduceLT, Nat.reduceAdd, reduceCtorEq, tyInt, tdInt, tyInts, tdInts, storeAV, rowQ, ownInts, FT.of, FT.setf, List.nil_append, Int.toNat_natCast, List.set_cons_zero, ne_eq, not_false_eq_true]
  repeat (refine And.intro ?_ ?_; focus (first | exact ordP (by kernel_rfl) | with_reducible exact rfl | assumption | trivial | (simp only [inR]; omega) | omega | (intro hh; (try obtain ⟨hh1, hh2⟩ := hh); (repeat' apply And.intro) <;> first | assumption | (simp only [inR]; omega) | omega | (intros; (repeat' apply And.intro) <;> first | assumption | (simp only [inR]; omega) | omega)) | (intros; (repeat' apply And.intro) <;> first | assumption | (simp only [inR]; omega) | omega | (simp_all; done) | (simp_all [inR]; omega))))
  refine hK3 _ ?_
  clear hK3
  refine W_block ?_
  refine W_loop (α := Int × List Int) [(0, .own 3 .i64), (1, .as), (5, .as)] (fun x => ⟨[(0, .sl 0), (1, .int (k + x.1)), (5, .int x.1)], [(0, some (.sl 3 .i64 x.2))], 19⟩) (fun x => 0 ≤ x.1 ∧ x.1 ≤ a.length ∧ x.2.length = a.length ∧ ∀ j : Nat, (j : Int) < x.1 → x.2.getD j 0 = k + j) (fun x => (a.length - x.1).toNat) (0, a) ?_ ?_ ?_
  · (try simp only [hnt, hnp]); simp only [Int.add_zero]; rfl
  · exact ⟨by omega, by omega, rfl, fun j hj => by dsimp only at hj; omega⟩
  rintro ⟨i, l⟩ ⟨hi0, hi1, hl, hI⟩
  dsimp only at hi0 hi1 hl hI ⊢
  refine W_seq (fun K5 hK5 => ?_)
  refine W_seq (fun K6 hK6 => ?_)
  refine W_region hT hG [] [0, 1, 5, 9] ?_
  rw [hnt]
  simp only [baseS, eq_self, implies_true, if_true, if_false, reduceIte, Nat.reduceBEq, Nat.reduceEqDiff, Nat.reduceLT, Nat.reduceAdd, reduceCtorEq, tyInt, tdInt, tyInts, tdInts, storeAV, rowQ, ownInts, FT.of, FT.setf, List.nil_append, Int.toNat_natCast, List.set_cons_zero, ne_eq, not_false_eq_true]
  repeat (refine And.intro ?_ ?_; focus (first | exact ordP (by kernel_rfl) | with_reducible exact rfl | assumption | trivial | (simp only [inR]; omega) | omega | (intro hh; (try obtain ⟨hh1, hh2⟩ := hh); (repeat' apply And.intro) <;> first | assumption | (simp only [inR]; omega) | omega | (intros; (repeat' apply And.intro) <;> first | assumption | (simp only [inR]; omega) | omega)) | (intros; (repeat' apply And.intro) <;> first | assumption | (simp only [inR]; omega) | omega | (simp_all; done) | (simp_all [inR]; omega))))
  refine hK6 _ ?_
  clear hK6
  refine W_cond (b := _) rfl (fun hc7 => ?_) (fun hc7 => ?_)
  · try simp only [decide_eq_true_eq, decide_eq_false_iff_not, ne_eq, Decidable.not_not, Bool.not_eq_true', Bool.not_eq_false', Bool.or_eq_true, Bool.and_eq_true, Bool.or_eq_false_iff, Bool.and_eq_false_iff] at hc7
    refine W_skip ?_
    simp only [thenQ, blockQ, loopQ, reduceIte, Nat.reduceEqDiff]
    refine hK5 _ ?_
    clear hK5
    refine W_seq (fun K8 hK8 => ?_)
    refine W_block ?_
    refine W_seq (fun K9 hK9 => ?_)
    refine W_region hT hG [] [0, 1, 5] ?_
    rw [hnt]
    simp only [baseS, eq_self, implies_true, if_true, if_false, reduceIte, Nat.reduceBEq, Nat.reduceEqDiff, Nat.reduceLT, Nat.reduceAdd, reduceCtorEq, tyInt, tdInt, tyInts, tdInts, storeAV, rowQ, ownInts, FT.of, FT.setf, List.nil_append, Int.toNat_natCast, List.set_cons_zero, ne_eq, not_false_eq_true]
    repeat (refine And.intro ?_ ?_; focus (first | exact ordP (by kernel_rfl) | with_reducible exact rfl | assumption | trivial | (simp only [inR]; omega) | omega | (intro hh; (try obtain ⟨hh1, hh2⟩ := hh); (repeat' apply And.intro) <;> first | assumption | (simp only [inR]; omega) | omega | (intros; (repeat' apply And.intro) <;> first | assumption | (simp only [inR]; omega) | omega)) | (intros; (repeat' apply And.intro) <;> first | assumption | (simp only [inR]; omega) | omega | (simp_all; done) | (simp_all [inR]; omega))))
    refine hK9 _ ?_
    clear hK9
    refine W_region hT hG [] [0, 1, 5] ?_
    rw [hnt]
    simp only [baseS, eq_self, implies_true, if_true, if_false, reduceIte, Nat.reduceBEq, Nat.reduceEqDiff, Nat.reduceLT, Nat.reduceAdd, reduceCtorEq, tyInt, tdInt, tyInts, tdInts, storeAV, rowQ, ownInts, FT.of, FT.setf, List.nil_append, Int.toNat_natCast, List.set_cons_zero, ne_eq, not_false_eq_true]
    repeat (refine And.intro ?_ ?_; focus (first | exact ordP (by kernel_rfl) | with_reducible exact rfl | assumption | trivial | (simp only [inR]; omega) | omega | (intro hh; (try obtain ⟨hh1, hh2⟩ := hh); (repeat' apply And.intro) <;> first | assumption | (simp only [inR]; omega) | omega | (intros; (repeat' apply And.intro) <;> first | assumption | (simp only [inR]; omega) | omega)) | (intros; (repeat' apply And.intro) <;> first | assumption | (simp only [inR]; omega) | omega | (simp_all; done) | (simp_all [inR]; omega))))
    refine hK8 _ ?_
    clear hK8
    refine W_region hT hG [] [0, 1, 5] ?_
    rw [hnt]
    simp only [baseS, eq_self, implies_true, if_true, if_false, reduceIte, Nat.reduceBEq, Nat.reduceEqDiff, Nat.reduceLT, Nat.reduceAdd, reduceCtorEq, tyInt, tdInt, tyInts, tdInts, storeAV, rowQ, ownInts, FT.of, FT.setf, List.nil_append, Int.toNat_natCast, List.set_cons_zero, ne_eq, not_false_eq_true]
    repeat (refine And.intro ?_ ?_; focus (first | exact ordP (by kernel_rfl) | with_reducible exact rfl | assumption | trivial | (simp only [inR]; omega) | omega | (intro hh; (try obtain ⟨hh1, hh2⟩ := hh); (repeat' apply And.intro) <;> first | assumption | (simp only [inR]; omega) | omega | (intros; (repeat' apply And.intro) <;> first | assumption | (simp only [inR]; omega) | omega)) | (intros; (repeat' apply And.intro) <;> first | assumption | (simp only [inR]; omega) | omega | (simp_all; done) | (simp_all [inR]; omega))))
    have e1 : k + i + 1 = k + (i + 1) := by omega
    simp only [e1]
    refine ⟨(i + 1, l.set i.toNat (k + i)), (by (try simp only [hnt, hnp]); rfl), ⟨by dsimp only; omega, by dsimp only; omega, by dsimp only; simp [hl], mark_step hi0 (by omega) hl hI⟩, by dsimp only; omega⟩
  · try simp only [decide_eq_true_eq, decide_eq_false_iff_not, ne_eq, Decidable.not_not, Bool.not_eq_true', Bool.not_eq_false', Bool.or_eq_true, Bool.and_eq_true, Bool.or_eq_false_iff, Bool.and_eq_false_iff] at hc7
    refine W_exit ?_
    simp only [thenQ, blockQ, loopQ, reduceIte, Nat.reduceEqDiff]
    refine hK2 _ ?_
    clear hK2
    refine W_seq (fun K10 hK10 => ?_)
    refine W_region hT hG [] [0, 4] ?_
    rw [hnt]
    simp only [baseS, eq_self, implies_true, if_true, if_false, reduceIte, Nat.reduceBEq, Nat.reduceEqDiff, Nat.reduceLT, Nat.reduceAdd, reduceCtorEq, tyInt, tdInt, tyInts, tdInts, storeAV, rowQ, ownInts, FT.of, FT.setf, List.nil_append, Int.toNat_natCast, List.set_cons_zero, ne_eq, not_false_eq_true]
    repeat (refine And.intro ?_ ?_; focus (first | exact ordP (by kernel_rfl) | with_reducible exact rfl | assumption | trivial | (simp only [inR]; omega) | omega | (intro hh; (try obtain ⟨hh1, hh2⟩ := hh); (repeat' apply And.intro) <;> first | assumption | (simp only [inR]; omega) | omega | (intros; (repeat' apply And.intro) <;> first | assumption | (simp only [inR]; omega) | omega)) | (intros; (repeat' apply And.intro) <;> first | assumption | (simp only [inR]; omega) | omega | (simp_all; done) | (simp_all [inR]; omega))))
    refine hK10 _ ?_
    clear hK10
    refine W_ret ?_
    simp only [thenQ, blockQ, loopQ, retQ, reduceIte, Nat.reduceEqDiff]
    have hend : l = markL a.length k := markL_of hl hI (by omega)
    obtain rfl : i = a.length := by omega
    subst hend
    exact retm 0 rfl rfl rfl rfl (.inr ⟨rfl, rfl⟩) rfl

def c_laws_heldIntS : Ctr where
  modes := [.v (.r .i64), .v .p]
  al := false
  run := fun xs os => match xs, os with
    | [.rs .i64 a, .int k], [] => some ⟨(0 ≤ k ∧ k ≤ 4611686018427387904) ∧ a.length ≤ 1099511627776, .int (heldF a k), [], []⟩
    | _, _ => none
theorem m_laws_heldIntS : Meets Try.prog 30 c_laws_heldIntS := by
  refine meets_of (T := tyT) tyOK Try.func30 (by rfl) rfl (by decide) ?_
  intro args owns R hrun hpre
  simp only [c_laws_heldIntS] at hrun
  split at hrun
  case h_2 => cases hrun
  rename_i a k
  cases hrun
  try dsimp only at hpre
  refine ⟨_, rfl, fun E hP hnt hnp => ?_⟩
  replace hnt : E.nt = 21 := hnt
  replace hnp : E.np = 2 := hnp
  have hT : ∀ t d, tyT t = some d → TyOK E.P t d := hP ▸ tyOK
  have hG : ∀ f C, Γof [] f = some C → Meets E.P f C := hΓof (by rw [hP]; exact trivial)
  try simp only [show Try.f30.ntmps = 21 from rfl]
  have hk := hpre.1
  have ha := hpre.2
  refine W_seq (fun K1 hK1 => ?_)
  refine W_region hT hG [] [0, 1] ?_
  rw [hnt]
  simp only [baseS, eq_self, implies_true, if_true, if_false, reduceIte, Nat.reduceBEq, Nat.reduceEqDiff, Nat.reduceLT, Nat.reduceAdd, reduceCtorEq, tyInt, tdInt, tyInts, tdInts]
  repeat (refine And.intro ?_ ?_; focus (first | exact ordP (by kernel_rfl) | with_reducible exact rfl | assumption | trivial | (simp only [inR]; omega) | omega | (intro hh; (try obtain ⟨hh1, hh2⟩ := hh); (repeat' apply And.intro) <;> first | assumption | (simp only [inR]; omega) | omega | (intros; (repeat' apply And.intro) <;> first | assumption | (simp only [inR]; omega) | omega)) | (intros; (repeat' apply And.intro) <;> first | assumption | (simp only [inR]; omega) | omega | (simp_all; done) | (simp_all [inR]; omega))))
  refine hK1 _ ?_
  clear hK1
  refine W_seq (fun K2 hK2 => ?_)
  refine W_seq (fun K3 hK3 => ?_)
  refine W_region hT hG [] [0, 1, 5] ?_
  rw [hnt]
  simp only [baseS, eq_self, implies_true, if_true, if_false, reduceIte, Nat.reduceBEq, Nat.reduceEqDiff, Nat.reduceLT, Nat.reduceAdd, reduceCtorEq, tyInt, tdInt, tyInts, tdInts]
  repeat (refine And.intro ?_ ?_; focus (first | exact ordP (by kernel_rfl) | with_reducible exact rfl | assumption | trivial | (simp only [inR]; omega) | omega | (intro hh; (try obtain ⟨hh1, hh2⟩ := hh); (repeat' apply And.intro) <;> first | assumption | (simp only [inR]; omega) | omega | (intros; (repeat' apply And.intro) <;> first | assumption | (simp only [inR]; omega) | omega)) | (intros; (repeat' apply And.intro) <;> first | assumption | (simp only [inR]; omega) | omega | (simp_all; done) | (simp_all [inR]; omega))))
  refine hK3 _ ?_
  clear hK3
  refine W_block ?_
  refine W_loop (α := Int) [(0, .as), (1, .as), (5, .as)] (fun i => ⟨[(0, .rs .i64 a), (1, .int (k + i)), (5, .int i)], [], 21⟩) (fun i => 0 ≤ i ∧ i ≤ a.length ∧ ∀ j : Nat, (j : Int) < i → a.getD j 0 = k + j) (fun i => (a.length - i).toNat) 0 ?_ ?_ ?_
  · (try simp only [hnt, hnp]); simp only [Int.add_zero]; rfl
  · exact ⟨by omega, by omega, fun j hj => by omega⟩
  rintro i ⟨hi0, hi1, hI⟩
  refine W_seq (fun K5 hK5 => ?_)
  refine W_seq (fun K6 hK6 => ?_)
  refine W_region hT hG [] [0, 1, 5, 9] ?_
  rw [hnt]
  simp only [baseS, eq_self, implies_true, if_true, if_false, reduceIte, Nat.reduceBEq, Nat.reduceEqDiff, Nat.reduceLT, Nat.reduceAdd, reduceCtorEq, tyInt, tdInt, tyInts, tdInts]
  repeat (refine And.intro ?_ ?_; focus (first | exact ordP (by kernel_rfl) | with_reducible exact rfl | assumption | trivial | (simp only [inR]; omega) | omega | (intro hh; (try obtain ⟨hh1, hh2⟩ := hh); (repeat' apply And.intro) <;> first | assumption | (simp only [inR]; omega) | omega | (intros; (repeat' apply And.intro) <;> first | assumption | (simp only [inR]; omega) | omega)) | (intros; (repeat' apply And.intro) <;> first | assumption | (simp only [inR]; omega) | omega | (simp_all; done) | (simp_all [inR]; omega))))
  refine hK6 _ ?_
  clear hK6
  refine W_cond (b := _) rfl (fun hc7 => ?_) (fun hc7 => ?_)
  · try simp only [decide_eq_true_eq, decide_eq_false_iff_not, ne_eq, Decidable.not_not, Bool.not_eq_true', Bool.not_eq_false', Bool.or_eq_true, Bool.and_eq_true, Bool.or_eq_false_iff, Bool.and_eq_false_iff] at hc7
    refine W_skip ?_
    simp only [thenQ, blockQ, loopQ, reduceIte, Nat.reduceEqDiff]
    refine hK5 _ ?_
    clear hK5
    refine W_seq (fun K8 hK8 => ?_)
    refine W_block ?_
    refine W_seq (fun K9 hK9 => ?_)
    refine W_seq (fun K10 hK10 => ?_)
    refine W_region hT hG [] [0, 1, 5, 17] ?_
    rw [hnt]
    simp only [baseS, eq_self, implies_true, if_true, if_false, reduceIte, Nat.reduceBEq, Nat.reduceEqDiff, Nat.reduceLT, Nat.reduceAdd, reduceCtorEq, tyInt, tdInt, tyInts, tdInts]
    repeat (refine And.intro ?_ ?_; focus (first | exact ordP (by kernel_rfl) | with_reducible exact rfl | assumption | trivial | (simp only [inR]; omega) | omega | (intro hh; (try obtain ⟨hh1, hh2⟩ := hh); (repeat' apply And.intro) <;> first | assumption | (simp only [inR]; omega) | omega | (intros; (repeat' apply And.intro) <;> first | assumption | (simp only [inR]; omega) | omega)) | (intros; (repeat' apply And.intro) <;> first | assumption | (simp only [inR]; omega) | omega | (simp_all; done) | (simp_all [inR]; omega))))
    refine hK10 _ ?_
    clear hK10
    refine W_cond (b := _) rfl (fun hc11 => ?_) (fun hc11 => ?_)
    · try simp only [decide_eq_true_eq, decide_eq_false_iff_not, ne_eq, Decidable.not_not, Bool.not_eq_true', Bool.not_eq_false', Bool.or_eq_true, Bool.and_eq_true, Bool.or_eq_false_iff, Bool.and_eq_false_iff] at hc11
      refine W_seq (fun K12 hK12 => ?_)
      refine W_region hT hG [] [4] ?_
      rw [hnt]
      simp only [baseS, eq_self, implies_true, if_true, if_false, reduceIte, Nat.reduceBEq, Nat.reduceEqDiff, Nat.reduceLT, Nat.reduceAdd, reduceCtorEq, tyInt, tdInt, tyInts, tdInts]
      repeat (refine And.intro ?_ ?_; focus (first | exact ordP (by kernel_rfl) | with_reducible exact rfl | assumption | trivial | (simp only [inR]; omega) | omega | (intro hh; (try obtain ⟨hh1, hh2⟩ := hh); (repeat' apply And.intro) <;> first | assumption | (simp only [inR]; omega) | omega | (intros; (repeat' apply And.intro) <;> first | assumption | (simp only [inR]; omega) | omega)) | (intros; (repeat' apply And.intro) <;> first | assumption | (simp only [inR]; omega) | omega | (simp_all; done) | (simp_all [inR]; omega))))
      refine hK12 _ ?_
      clear hK12
      refine W_ret ?_
      simp only [thenQ, blockQ, loopQ, retQ, reduceIte, Nat.reduceEqDiff]
      refine ret0 ?_ rfl rfl (.inr rfl) rfl
      simp only [show Try.f30.results.toList = [ResultVar.tmp 4] from rfl, resAV, resL, look, Nat.reduceEqDiff, reduceIte, tyHull, tdHull, applyUps, noH, isStr, List.length_cons, List.length_nil, Nat.reduceAdd, and_self]
      all_goals (
        refine congrArg (fun x => some (AV.int x)) ?_
        first | exact held_yes hi1 hI hc11 | exact held_no hi0 hc7 hc11)
    · try simp only [decide_eq_true_eq, decide_eq_false_iff_not, ne_eq, Decidable.not_not, Bool.not_eq_true', Bool.not_eq_false', Bool.or_eq_true, Bool.and_eq_true, Bool.or_eq_false_iff, Bool.and_eq_false_iff] at hc11
      refine W_skip ?_
      simp only [thenQ, blockQ, loopQ, reduceIte, Nat.reduceEqDiff]
      refine hK9 _ ?_
      clear hK9
      refine W_region hT hG [] [0, 1, 5] ?_
      rw [hnt]
      simp only [baseS, eq_self, implies_true, if_true, if_false, reduceIte, Nat.reduceBEq, Nat.reduceEqDiff, Nat.reduceLT, Nat.reduceAdd, reduceCtorEq, tyInt, tdInt, tyInts, tdInts]
      repeat (refine And.intro ?_ ?_; focus (first | exact ordP (by kernel_rfl) | with_reducible exact rfl | assumption | trivial | (simp only [inR]; omega) | omega | (intro hh; (try obtain ⟨hh1, hh2⟩ := hh); (repeat' apply And.intro) <;> first | assumption | (simp only [inR]; omega) | omega | (intros; (repeat' apply And.intro) <;> first | assumption | (simp only [inR]; omega) | omega)) | (intros; (repeat' apply And.intro) <;> first | assumption | (simp only [inR]; omega) | omega | (simp_all; done) | (simp_all [inR]; omega))))
      refine hK8 _ ?_
      clear hK8
      refine W_region hT hG [] [0, 1, 5] ?_
      rw [hnt]
      simp only [baseS, eq_self, implies_true, if_true, if_false, reduceIte, Nat.reduceBEq, Nat.reduceEqDiff, Nat.reduceLT, Nat.reduceAdd, reduceCtorEq, tyInt, tdInt, tyInts, tdInts]
      repeat (refine And.intro ?_ ?_; focus (first | exact ordP (by kernel_rfl) | with_reducible exact rfl | assumption | trivial | (simp only [inR]; omega) | omega | (intro hh; (try obtain ⟨hh1, hh2⟩ := hh); (repeat' apply And.intro) <;> first | assumption | (simp only [inR]; omega) | omega | (intros; (repeat' apply And.intro) <;> first | assumption | (simp only [inR]; omega) | omega)) | (intros; (repeat' apply And.intro) <;> first | assumption | (simp only [inR]; omega) | omega | (simp_all; done) | (simp_all [inR]; omega))))
      have e1 : k + i + 1 = k + (i + 1) := by omega
      simp only [e1]
      refine ⟨i + 1, (by (try simp only [hnt, hnp]); rfl), ⟨by omega, by omega, held_next hi0 hI hc11⟩, by dsimp only; omega⟩
  · try simp only [decide_eq_true_eq, decide_eq_false_iff_not, ne_eq, Decidable.not_not, Bool.not_eq_true', Bool.not_eq_false', Bool.or_eq_true, Bool.and_eq_true, Bool.or_eq_false_iff, Bool.and_eq_false_iff] at hc7
    refine W_exit ?_
    simp only [thenQ, blockQ, loopQ, reduceIte, Nat.reduceEqDiff]
    refine hK2 _ ?_
    clear hK2
    refine W_seq (fun K13 hK13 => ?_)
    refine W_region hT hG [] [4] ?_
    rw [hnt]
    simp only [baseS, eq_self, implies_true, if_true, if_false, reduceIte, Nat.reduceBEq, Nat.reduceEqDiff, Nat.reduceLT, Nat.reduceAdd, reduceCtorEq, tyInt, tdInt, tyInts, tdInts]
    repeat (refine And.intro ?_ ?_; focus (first | exact ordP (by kernel_rfl) | with_reducible exact rfl | assumption | trivial | (simp only [inR]; omega) | omega | (intro hh; (try obtain ⟨hh1, hh2⟩ := hh); (repeat' apply And.intro) <;> first | assumption | (simp only [inR]; omega) | omega | (intros; (repeat' apply And.intro) <;> first | assumption | (simp only [inR]; omega) | omega)) | (intros; (repeat' apply And.intro) <;> first | assumption | (simp only [inR]; omega) | omega | (simp_all; done) | (simp_all [inR]; omega))))
    refine hK13 _ ?_
    clear hK13
    refine W_ret ?_
    simp only [thenQ, blockQ, loopQ, retQ, reduceIte, Nat.reduceEqDiff]
    refine ret0 ?_ rfl rfl (.inr rfl) rfl
    simp only [show Try.f30.results.toList = [ResultVar.tmp 4] from rfl, resAV, resL, look, Nat.reduceEqDiff, reduceIte, tyHull, tdHull, applyUps, noH, isStr, List.length_cons, List.length_nil, Nat.reduceAdd, and_self]
    all_goals (
      refine congrArg (fun x => some (AV.int x)) ?_
      first | exact held_yes hi1 hI hc7 | exact held_no hi0 HCPREV hc7)

end Go.Proofs.Ytpiaeckkjdcifaa
