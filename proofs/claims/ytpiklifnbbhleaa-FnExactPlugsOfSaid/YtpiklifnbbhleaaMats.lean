/- Walks over rows that own their rows. No condition. -/
import Derived.Test.YtpiklifnbbhleaaMarks
import Derived.Test.YtpiklifnbbhleaaMatW
namespace Go.Proofs.Ytpiklifnbbhleaa
open Go
set_option linter.unusedVariables false
set_option linter.unusedSimpArgs false

/-- How far the marks have come when n rows are marked. -/
def totTo (a : List (List Int)) (k : Int) : Nat → Int
  | 0 => k
  | n + 1 => totTo a k n + (a.getD n []).length
def markTo (a : List (List Int)) (k : Int) : Nat → List (List Int)
  | 0 => a
  | n + 1 => (markTo a k n).set n (markL (a.getD n []).length (totTo a k n))
theorem markTo_len (a : List (List Int)) (k : Int) : ∀ n, (markTo a k n).length = a.length
  | 0 => rfl
  | n + 1 => by rw [markTo, List.length_set, markTo_len a k n]
theorem markTo_get (a : List (List Int)) (k : Int) (j : Nat) : ∀ n, n ≤ j → (markTo a k n).getD j [] = a.getD j []
  | 0, _ => rfl
  | n + 1, h => by
    have := markTo_get a k j n (by omega)
    rw [List.getD_eq_getElem?_getD] at this ⊢
    rw [markTo, List.getElem?_set_ne (by omega)]
    exact this
theorem totTo_add (a : List (List Int)) (k : Int) : ∀ n, totTo a k n = k + totTo a 0 n
  | 0 => by simp [totTo]
  | n + 1 => by rw [totTo, totTo, totTo_add a k n]; omega
theorem totTo_mono (a : List (List Int)) (k : Int) : ∀ (n m : Nat), n ≤ m → totTo a k n ≤ totTo a k m
  | n, 0, h => by
    have : n = 0 := by omega
    subst this; exact Int.le_refl _
  | n, m + 1, h => by
    by_cases e : n = m + 1
    · subst e; exact Int.le_refl _
    · have := totTo_mono a k n m (by omega)
      rw [totTo]; omega
theorem totTo_bound {a : List (List Int)} {k i B : Int} (h0 : 0 ≤ i) (h1 : i < a.length) (hB : totTo a 0 a.length ≤ B) : k ≤ totTo a k i.toNat ∧ totTo a k i.toNat + (a.getD i.toNat []).length ≤ k + B := by
  have h2 := totTo_mono a k 0 i.toNat (by omega)
  have h3 := totTo_mono a k (i.toNat + 1) a.length (by omega)
  rw [totTo_add a k a.length, totTo] at h3
  exact ⟨h2, by omega⟩
theorem totTo_szR : ∀ (a : List (List Int)) (l : Int), 0 ≤ szR a l → totTo a 0 a.length ≤ l
  | [], l, h => by simpa [szR, totTo] using h
  | xs :: r, l, h => by
    simp only [szR] at h
    split at h
    · omega
    · have h1 := totTo_szR r _ h
      have h2 : ∀ n, totTo (xs :: r) 0 (n + 1) = xs.length + totTo r 0 n := by
        intro n
        induction n with
        | zero => simp [totTo]
        | succ n ih => rw [totTo, ih, totTo]; simp only [List.getD_cons_succ]; omega
      rw [List.length_cons, h2]; omega
theorem totTo_szSS {a : List (List Int)} {l : Int} (h : ¬ szSS a l < 0) : totTo a 0 a.length ≤ l := by
  simp only [szSS] at h
  split at h
  · omega
  · have := totTo_szR a (l - a.length) (by omega)
    omega
theorem toNat_succ {i : Int} (h : 0 ≤ i) : (i + 1).toNat = i.toNat + 1 := by omega

def c_laws_toIntSSm : Ctr where
  modes := [.v .rr]
  al := false
  run := fun xs os => match xs, os with
    | [.rows a], [] => some ⟨a.length ≤ 1099511627776 ∧ ∀ xs ∈ a, xs.length ≤ 1099511627776, .sl 0, [.mat 24 3 a], []⟩
    | _, _ => none
theorem m_laws_toIntSSm : Meets Try.prog 7 c_laws_toIntSSm := by
  refine meets_of (T := tyT) tyOK Try.func7 (by rfl) rfl (by decide) ?_
  intro args owns R hrun hpre
  simp only [c_laws_toIntSSm] at hrun
  split at hrun
  case h_2 => cases hrun
  rename_i a
  cases hrun
  try dsimp only at hpre
  refine ⟨_, rfl, fun E hP hnt hnp => ?_⟩
  replace hnt : E.nt = 23 := hnt
  replace hnp : E.np = 1 := hnp
  have hT : ∀ t d, tyT t = some d → TyOK E.P t d := hP ▸ tyOK
  have hG : ∀ f C, Γof [(15, c_laws_toIntS)] f = some C → Meets E.P f C := hΓof (by rw [hP]; exact ⟨m_laws_toIntS, trivial⟩)
  try simp only [show Try.f7.ntmps = 23 from rfl]
  have hrow := fun i => row_le hpre.2 i
  have hp1 := hpre.1
  refine W_seq (fun K1 hK1 => ?_)
  refine W_region hT hG [] [0] ?_
  rw [hnt]
  simp only [baseS, eq_self, implies_true, if_true, if_false, reduceIte, Nat.reduceBEq, Nat.reduceEqDiff, Nat.reduceLT, Nat.reduceAdd, reduceCtorEq, tyInt, tdInt, tyRows, tdRows, tyInts, tdInts, c_laws_toIntS, storeAV, rowQ, ownInts, FT.of, FT.setf, List.nil_append, Int.toNat_natCast, List.set_cons_zero, ne_eq, not_false_eq_true]
  repeat (refine And.intro ?_ ?_; focus (first | exact ordP (by kernel_rfl) | with_reducible exact rfl | assumption | trivial | (simp only [inR]; omega) | omega | (intro hh; (try obtain ⟨hh1, hh2⟩ := hh); (repeat' apply And.intro) <;> first | assumption | (simp only [inR]; omega) | omega | (intros; (repeat' apply And.intro) <;> first | assumption | (simp only [inR]; omega) | omega)) | (intros; (repeat' apply And.intro) <;> first | assumption | (simp only [inR]; omega) | omega | (simp_all; done) | (simp_all [inR]; omega))))
  refine hK1 _ ?_
  clear hK1
  refine W_seq (fun K2 hK2 => ?_)
  refine W_region_mid 2 1 hT hG [] [] [0, 3] ?_
  rw [hnt]
  simp only [baseS, eq_self, implies_true, if_true, if_false, reduceIte, Nat.reduceBEq, Nat.reduceEqDiff, Nat.reduceLT, Nat.reduceAdd, reduceCtorEq, tyInt, tdInt, tyRows, tdRows, tyInts, tdInts, c_laws_toIntS, storeAV, rowQ, ownInts, FT.of, FT.setf, List.nil_append, Int.toNat_natCast, List.set_cons_zero, ne_eq, not_false_eq_true, List.take_succ_cons, List.take_zero, List.drop_succ_cons, List.drop_zero, List.take_nil, List.drop_nil]
  repeat (refine And.intro ?_ ?_; focus (first | exact ordP (by kernel_rfl) | with_reducible exact rfl | assumption | trivial | (simp only [inR]; omega) | omega | (intro hh; (try obtain ⟨hh1, hh2⟩ := hh); (repeat' apply And.intro) <;> first | assumption | (simp only [inR]; omega) | omega | (intros; (repeat' apply And.intro) <;> first | assumption | (simp only [inR]; omega) | omega)) | (intros; (repeat' apply And.intro) <;> first | assumption | (simp only [inR]; omega) | omega | (simp_all; done) | (simp_all [inR]; omega))))
  refine Mid.intro (hol_makem 3 (hT _ _ (by rfl)) rfl rfl rfl rfl (by rw [hnt]; decide) rfl (by omega) (by omega)) ?_
  try rw [hnt]
  simp only [Mid2, baseS, eq_self, implies_true, if_true, if_false, reduceIte, Nat.reduceBEq, Nat.reduceEqDiff, Nat.reduceLT, Nat.reduceAdd, reduceCtorEq, tyInt, tdInt, tyRows, tdRows, tyInts, tdInts, c_laws_toIntS, storeAV, rowQ, ownInts, FT.of, FT.setf, List.nil_append, Int.toNat_natCast, List.set_cons_zero, ne_eq, not_false_eq_true, List.take_succ_cons, List.take_zero, List.drop_succ_cons, List.drop_zero, List.take_nil, List.drop_nil]
  repeat (refine And.intro ?_ ?_; focus (first | exact ordP (by kernel_rfl) | with_reducible exact rfl | assumption | trivial | (simp only [inR]; omega) | omega | (intro hh; (try obtain ⟨hh1, hh2⟩ := hh); (repeat' apply And.intro) <;> first | assumption | (simp only [inR]; omega) | omega | (intros; (repeat' apply And.intro) <;> first | assumption | (simp only [inR]; omega) | omega)) | (intros; (repeat' apply And.intro) <;> first | assumption | (simp only [inR]; omega) | omega | (simp_all; done) | (simp_all [inR]; omega))))
  refine hK2 _ ?_
  clear hK2
  refine W_seq (fun K3 hK3 => ?_)
  refine W_seq (fun K4 hK4 => ?_)
  refine W_region hT hG [] [0, 3, 4] ?_
  rw [hnt]
  simp only [baseS, eq_self, implies_true, if_true, if_false, reduceIte, Nat.reduceBEq, Nat.reduceEqDiff, Nat.reduceLT, Nat.reduceAdd, reduceCtorEq, tyInt, tdInt, tyRows, tdRows, tyInts, tdInts, c_laws_toIntS, storeAV, rowQ, ownInts, FT.of, FT.setf, List.nil_append, Int.toNat_natCast, List.set_cons_zero, ne_eq, not_false_eq_true]
  repeat (refine And.intro ?_ ?_; focus (first | exact ordP (by kernel_rfl) | with_reducible exact rfl | assumption | trivial | (simp only [inR]; omega) | omega | (intro hh; (try obtain ⟨hh1, hh2⟩ := hh); (repeat' apply And.intro) <;> first | assumption | (simp only [inR]; omega) | omega | (intros; (repeat' apply And.intro) <;> first | assumption | (simp only [inR]; omega) | omega)) | (intros; (repeat' apply And.intro) <;> first | assumption | (simp only [inR]; omega) | omega | (simp_all; done) | (simp_all [inR]; omega))))
  refine hK4 _ ?_
  clear hK4
  refine W_block ?_
  refine W_loop (α := Int × List (List Int)) [(0, .as), (3, .ownr 24), (4, .as)] (fun x => ⟨[(0, .rows a), (3, .sl 3), (4, .int x.1)], [(3, some (.mat 24 3 x.2))], 23⟩) (fun x => 0 ≤ x.1 ∧ x.1 ≤ a.length ∧ x.2 = a.take x.1.toNat ++ List.replicate (a.length - x.1.toNat) []) (fun x => (a.length - x.1).toNat) (0, List.replicate a.length []) ?_ ?_ ?_
  · (try simp only [hnt, hnp]); rfl
  · exact ⟨by omega, by omega, by simp⟩
  rintro ⟨i, l⟩ ⟨hi0, hi1, hI⟩
  dsimp only at hi0 hi1 hI ⊢
  have hlen := copy_len hi0 hi1 hI
  have hri := hrow i.toNat
  refine W_seq (fun K6 hK6 => ?_)
  refine W_seq (fun K7 hK7 => ?_)
  refine W_region hT hG [] [0, 3, 4, 11] ?_
  rw [hnt]
  simp only [baseS, eq_self, implies_true, if_true, if_false, reduceIte, Nat.reduceBEq, Nat.reduceEqDiff, Nat.reduceLT, Nat.reduceAdd, reduceCtorEq, tyInt, tdInt, tyRows, tdRows, tyInts, tdInts, c_laws_toIntS, storeAV, rowQ, ownInts, FT.of, FT.setf, List.nil_append, Int.toNat_natCast, List.set_cons_zero, ne_eq, not_false_eq_true]
  repeat (refine And.intro ?_ ?_; focus (first | exact ordP (by kernel_rfl) | with_reducible exact rfl | assumption | trivial | (simp only [inR]; omega) | omega | (intro hh; (try obtain ⟨hh1, hh2⟩ := hh); (repeat' apply And.intro) <;> first | assumption | (simp only [inR]; omega) | omega | (intros; (repeat' apply And.intro) <;> first | assumption | (simp only [inR]; omega) | omega)) | (intros; (repeat' apply And.intro) <;> first | assumption | (simp only [inR]; omega) | omega | (simp_all; done) | (simp_all [inR]; omega))))
  refine hK7 _ ?_
  clear hK7
  refine W_cond (b := _) rfl (fun hc8 => ?_) (fun hc8 => ?_)
  · try simp only [decide_eq_true_eq, decide_eq_false_iff_not, ne_eq, Decidable.not_not, Bool.not_eq_true', Bool.not_eq_false', Bool.or_eq_true, Bool.and_eq_true, Bool.or_eq_false_iff, Bool.and_eq_false_iff] at hc8
    refine W_skip ?_
    simp only [thenQ, blockQ, loopQ, reduceIte, Nat.reduceEqDiff]
    refine hK6 _ ?_
    clear hK6
    refine W_seq (fun K9 hK9 => ?_)
    refine W_block ?_
    refine W_region_mid 7 2 hT hG [] [] [0, 3, 4] ?_
    rw [hnt]
    simp only [baseS, eq_self, implies_true, if_true, if_false, reduceIte, Nat.reduceBEq, Nat.reduceEqDiff, Nat.reduceLT, Nat.reduceAdd, reduceCtorEq, tyInt, tdInt, tyRows, tdRows, tyInts, tdInts, c_laws_toIntS, storeAV, rowQ, ownInts, FT.of, FT.setf, List.nil_append, Int.toNat_natCast, List.set_cons_zero, ne_eq, not_false_eq_true, List.take_succ_cons, List.take_zero, List.drop_succ_cons, List.drop_zero, List.take_nil, List.drop_nil]
    repeat (refine And.intro ?_ ?_; focus (first | exact ordP (by kernel_rfl) | with_reducible exact rfl | assumption | trivial | (simp only [inR]; omega) | omega | (intro hh; (try obtain ⟨hh1, hh2⟩ := hh); (repeat' apply And.intro) <;> first | assumption | (simp only [inR]; omega) | omega | (intros; (repeat' apply And.intro) <;> first | assumption | (simp only [inR]; omega) | omega)) | (intros; (repeat' apply And.intro) <;> first | assumption | (simp only [inR]; omega) | omega | (simp_all; done) | (simp_all [inR]; omega))))
    refine Mid.intro (hol_put (is := 3) (zss := l.set i.toNat (a.getD i.toNat [])) (hT _ _ (by rfl)) rfl (hT _ _ (by rfl)) rfl rfl rfl rfl rfl rfl rfl (by rw [hnt]; decide) rfl rfl rfl rfl rfl rfl (by decide) (by omega) (by omega) rfl) ?_
    try rw [hnt]
    simp only [Mid2, baseS, eq_self, implies_true, if_true, if_false, reduceIte, Nat.reduceBEq, Nat.reduceEqDiff, Nat.reduceLT, Nat.reduceAdd, reduceCtorEq, tyInt, tdInt, tyRows, tdRows, tyInts, tdInts, c_laws_toIntS, storeAV, rowQ, ownInts, FT.of, FT.setf, List.nil_append, Int.toNat_natCast, List.set_cons_zero, ne_eq, not_false_eq_true, List.take_succ_cons, List.take_zero, List.drop_succ_cons, List.drop_zero, List.take_nil, List.drop_nil]
    repeat (refine And.intro ?_ ?_; focus (first | exact ordP (by kernel_rfl) | with_reducible exact rfl | assumption | trivial | (simp only [inR]; omega) | omega | (intro hh; (try obtain ⟨hh1, hh2⟩ := hh); (repeat' apply And.intro) <;> first | assumption | (simp only [inR]; omega) | omega | (intros; (repeat' apply And.intro) <;> first | assumption | (simp only [inR]; omega) | omega)) | (intros; (repeat' apply And.intro) <;> first | assumption | (simp only [inR]; omega) | omega | (simp_all; done) | (simp_all [inR]; omega))))
    refine hK9 _ ?_
    clear hK9
    refine W_region hT hG [] [0, 3, 4] ?_
    rw [hnt]
    simp only [baseS, eq_self, implies_true, if_true, if_false, reduceIte, Nat.reduceBEq, Nat.reduceEqDiff, Nat.reduceLT, Nat.reduceAdd, reduceCtorEq, tyInt, tdInt, tyRows, tdRows, tyInts, tdInts, c_laws_toIntS, storeAV, rowQ, ownInts, FT.of, FT.setf, List.nil_append, Int.toNat_natCast, List.set_cons_zero, ne_eq, not_false_eq_true]
    repeat (refine And.intro ?_ ?_; focus (first | exact ordP (by kernel_rfl) | with_reducible exact rfl | assumption | trivial | (simp only [inR]; omega) | omega | (intro hh; (try obtain ⟨hh1, hh2⟩ := hh); (repeat' apply And.intro) <;> first | assumption | (simp only [inR]; omega) | omega | (intros; (repeat' apply And.intro) <;> first | assumption | (simp only [inR]; omega) | omega)) | (intros; (repeat' apply And.intro) <;> first | assumption | (simp only [inR]; omega) | omega | (simp_all; done) | (simp_all [inR]; omega))))
    refine ⟨(i + 1, l.set i.toNat (a.getD i.toNat [])), (by (try simp only [hnt, hnp]); rfl), ⟨by dsimp only; omega, by dsimp only; omega, copy_step hi0 hI hc8⟩, by dsimp only; omega⟩
  · try simp only [decide_eq_true_eq, decide_eq_false_iff_not, ne_eq, Decidable.not_not, Bool.not_eq_true', Bool.not_eq_false', Bool.or_eq_true, Bool.and_eq_true, Bool.or_eq_false_iff, Bool.and_eq_false_iff] at hc8
    refine W_exit ?_
    simp only [thenQ, blockQ, loopQ, reduceIte, Nat.reduceEqDiff]
    refine hK3 _ ?_
    clear hK3
    refine W_seq (fun K10 hK10 => ?_)
    refine W_region hT hG [] [2] ?_
    rw [hnt]
    simp only [baseS, eq_self, implies_true, if_true, if_false, reduceIte, Nat.reduceBEq, Nat.reduceEqDiff, Nat.reduceLT, Nat.reduceAdd, reduceCtorEq, tyInt, tdInt, tyRows, tdRows, tyInts, tdInts, c_laws_toIntS, storeAV, rowQ, ownInts, FT.of, FT.setf, List.nil_append, Int.toNat_natCast, List.set_cons_zero, ne_eq, not_false_eq_true]
    repeat (refine And.intro ?_ ?_; focus (first | exact ordP (by kernel_rfl) | with_reducible exact rfl | assumption | trivial | (simp only [inR]; omega) | omega | (intro hh; (try obtain ⟨hh1, hh2⟩ := hh); (repeat' apply And.intro) <;> first | assumption | (simp only [inR]; omega) | omega | (intros; (repeat' apply And.intro) <;> first | assumption | (simp only [inR]; omega) | omega)) | (intros; (repeat' apply And.intro) <;> first | assumption | (simp only [inR]; omega) | omega | (simp_all; done) | (simp_all [inR]; omega))))
    refine hK10 _ ?_
    clear hK10
    refine W_ret ?_
    simp only [thenQ, blockQ, loopQ, retQ, reduceIte, Nat.reduceEqDiff]
    have hend := copy_end hi1 hI hc8
    subst hend
    exact ret1 3 rfl rfl rfl rfl (.inr ⟨rfl, rfl⟩) rfl

def c_laws_markIntSS : Ctr where
  modes := [.m, .v .p]
  al := false
  run := fun xs os => match xs, os with
    | [.int k], [.mat 24 3 a] => some ⟨(0 ≤ k ∧ k ≤ 1099511627776) ∧ a.length ≤ 1099511627776 ∧ totTo a 0 a.length ≤ 1099511627776, .int (totTo a k a.length), [], [.mat 24 3 (markTo a k a.length)]⟩
    | _, _ => none
theorem m_laws_markIntSS : Meets Try.prog 11 c_laws_markIntSS := by
  refine meets_of (T := tyT) tyOK Try.func11 (by rfl) rfl (by decide) ?_
  intro args owns R hrun hpre
  simp only [c_laws_markIntSS] at hrun
  split at hrun
  case h_2 => cases hrun
  rename_i k a
  cases hrun
  try dsimp only at hpre
  refine ⟨⟨[(0, .sl 0), (1, .int k)], [(0, some (.mat 24 3 a))], 19⟩, rfl, fun E hP hnt hnp => ?_⟩
  replace hnt : E.nt = 19 := hnt
  replace hnp : E.np = 2 := hnp
  have hT : ∀ t d, tyT t = some d → TyOK E.P t d := hP ▸ tyOK
  have hG : ∀ f C, Γof [(12, c_laws_markIntS)] f = some C → Meets E.P f C := hΓof (by rw [hP]; exact ⟨m_laws_markIntS, trivial⟩)
  try simp only [show Try.f11.ntmps = 19 from rfl]
  have hk := hpre.1
  have ha := hpre.2.1
  have hb := hpre.2.2
  refine W_seq (fun K1 hK1 => ?_)
  refine W_region hT hG [] [0, 1] ?_
  rw [hnt]
  simp only [baseS, eq_self, implies_true, if_true, if_false, reduceIte, Nat.reduceBEq, Nat.reduceEqDiff, Nat.reduceLT, Nat.reduceAdd, reduceCtorEq, tyInt, tdInt, tyRows, tdRows, tyInts, tdInts, c_laws_markIntS, storeAV, rowQ, ownInts, FT.of, FT.setf, List.nil_append, Int.toNat_natCast, List.set_cons_zero, ne_eq, not_false_eq_true]
  repeat (refine And.intro ?_ ?_; focus (first | exact ordP (by kernel_rfl) | with_reducible exact rfl | assumption | trivial | (simp only [inR]; omega) | omega | (intro hh; (try obtain ⟨hh1, hh2⟩ := hh); (repeat' apply And.intro) <;> first | assumption | (simp only [inR]; omega) | omega | (intros; (repeat' apply And.intro) <;> first | assumption | (simp only [inR]; omega) | omega)) | (intros; (repeat' apply And.intro) <;> first | assumption | (simp only [inR]; omega) | omega | (simp_all; done) | (simp_all [inR]; omega))))
  refine hK1 _ ?_
  clear hK1
  refine W_seq (fun K2 hK2 => ?_)
  refine W_seq (fun K3 hK3 => ?_)
  refine W_region hT hG [] [0, 1, 5] ?_
  rw [hnt]
  simp only [baseS, eq_self, implies_true, if_true, if_false, reduceIte, Nat.reduceBEq, Nat.reduceEqDiff, Nat.reduceLT, Nat.reduceAdd, reduceCtorEq, tyInt, tdInt, tyRows, tdRows, tyInts, tdInts, c_laws_markIntS, storeAV, rowQ, ownInts, FT.of, FT.setf, List.nil_append, Int.toNat_natCast, List.set_cons_zero, ne_eq, not_false_eq_true]
  repeat (refine And.intro ?_ ?_; focus (first | exact ordP (by kernel_rfl) | with_reducible exact rfl | assumption | trivial | (simp only [inR]; omega) | omega | (intro hh; (try obtain ⟨hh1, hh2⟩ := hh); (repeat' apply And.intro) <;> first | assumption | (simp only [inR]; omega) | omega | (intros; (repeat' apply And.intro) <;> first | assumption | (simp only [inR]; omega) | omega)) | (intros; (repeat' apply And.intro) <;> first | assumption | (simp only [inR]; omega) | omega | (simp_all; done) | (simp_all [inR]; omega))))
  refine hK3 _ ?_
  clear hK3
  refine W_block ?_
  refine W_loop (α := Int) [(0, .ownr 24), (1, .as), (5, .as)] (fun i => ⟨[(0, .sl 0), (1, .int (totTo a k i.toNat)), (5, .int i)], [(0, some (.mat 24 3 (markTo a k i.toNat)))], 19⟩) (fun i => 0 ≤ i ∧ i ≤ a.length) (fun i => (a.length - i).toNat) 0 ?_ ?_ ?_
  · (try simp only [hnt, hnp]); rfl
  · exact ⟨by omega, by omega⟩
  rintro i ⟨hi0, hi1⟩
  have hlm := markTo_len a k i.toNat
  refine W_seq (fun K5 hK5 => ?_)
  refine W_seq (fun K6 hK6 => ?_)
  refine W_region hT hG [] [0, 1, 5, 9] ?_
  rw [hnt]
  simp only [baseS, eq_self, implies_true, if_true, if_false, reduceIte, Nat.reduceBEq, Nat.reduceEqDiff, Nat.reduceLT, Nat.reduceAdd, reduceCtorEq, tyInt, tdInt, tyRows, tdRows, tyInts, tdInts, c_laws_markIntS, storeAV, rowQ, ownInts, FT.of, FT.setf, List.nil_append, Int.toNat_natCast, List.set_cons_zero, ne_eq, not_false_eq_true]
  repeat (refine And.intro ?_ ?_; focus (first | exact ordP (by kernel_rfl) | with_reducible exact rfl | assumption | trivial | (simp only [inR]; omega) | omega | (intro hh; (try obtain ⟨hh1, hh2⟩ := hh); (repeat' apply And.intro) <;> first | assumption | (simp only [inR]; omega) | omega | (intros; (repeat' apply And.intro) <;> first | assumption | (simp only [inR]; omega) | omega)) | (intros; (repeat' apply And.intro) <;> first | assumption | (simp only [inR]; omega) | omega | (simp_all; done) | (simp_all [inR]; omega))))
  refine hK6 _ ?_
  clear hK6
  refine W_cond (b := _) rfl (fun hc7 => ?_) (fun hc7 => ?_)
  · try simp only [decide_eq_true_eq, decide_eq_false_iff_not, ne_eq, Decidable.not_not, Bool.not_eq_true', Bool.not_eq_false', Bool.or_eq_true, Bool.and_eq_true, Bool.or_eq_false_iff, Bool.and_eq_false_iff] at hc7
    refine W_skip ?_
    simp only [thenQ, blockQ, loopQ, reduceIte, Nat.reduceEqDiff]
    refine hK5 _ ?_
    clear hK5
    refine W_seq (fun K8 hK8 => ?_)
    refine W_block ?_
    refine W_region_mid 2 4 hT hG [] [] [0, 1, 5] ?_
    rw [hnt]
    simp only [baseS, eq_self, implies_true, if_true, if_false, reduceIte, Nat.reduceBEq, Nat.reduceEqDiff, Nat.reduceLT, Nat.reduceAdd, reduceCtorEq, tyInt, tdInt, tyRows, tdRows, tyInts, tdInts, c_laws_markIntS, storeAV, rowQ, ownInts, FT.of, FT.setf, List.nil_append, Int.toNat_natCast, List.set_cons_zero, ne_eq, not_false_eq_true, List.take_succ_cons, List.take_zero, List.drop_succ_cons, List.drop_zero, List.take_nil, List.drop_nil]
    repeat (refine And.intro ?_ ?_; focus (first | exact ordP (by kernel_rfl) | with_reducible exact rfl | assumption | trivial | (simp only [inR]; omega) | omega | (intro hh; (try obtain ⟨hh1, hh2⟩ := hh); (repeat' apply And.intro) <;> first | assumption | (simp only [inR]; omega) | omega | (intros; (repeat' apply And.intro) <;> first | assumption | (simp only [inR]; omega) | omega)) | (intros; (repeat' apply And.intro) <;> first | assumption | (simp only [inR]; omega) | omega | (simp_all; done) | (simp_all [inR]; omega))))
    have hlm := markTo_len a k i.toNat
    have hgm := markTo_get a k i.toNat i.toNat (Nat.le_refl _)
    have hcc : i < a.length := by
      have := hc7
      omega
    have hbd := totTo_bound (k := k) hi0 hcc hb
    refine Mid.intro (hol_mark_eq (C := c_laws_markIntS) (m' := totTo a k (i + 1).toNat) (zss := markTo a k (i + 1).toNat) (hT _ _ (by rfl)) rfl (hT _ _ (by rfl)) rfl rfl rfl rfl rfl rfl rfl rfl rfl rfl rfl rfl rfl rfl rfl (by rw [hnt]; decide) (by rw [hnt]; decide) (by rw [hnt]; decide) (by rw [hnt]; decide) (by decide) (by decide) (by decide) rfl rfl rfl rfl (hP ▸ m_laws_markIntS) rfl rfl rfl ⟨⟨by omega, by omega⟩, by rw [hgm]; omega⟩ hi0 (by omega) (by rw [hgm, toNat_succ hi0, totTo]) (by rw [hgm, toNat_succ hi0, markTo])) ?_
    try rw [hnt]
    simp only [Mid2, baseS, eq_self, implies_true, if_true, if_false, reduceIte, Nat.reduceBEq, Nat.reduceEqDiff, Nat.reduceLT, Nat.reduceAdd, reduceCtorEq, tyInt, tdInt, tyRows, tdRows, tyInts, tdInts, c_laws_markIntS, storeAV, rowQ, ownInts, FT.of, FT.setf, List.nil_append, Int.toNat_natCast, List.set_cons_zero, ne_eq, not_false_eq_true, List.take_succ_cons, List.take_zero, List.drop_succ_cons, List.drop_zero, List.take_nil, List.drop_nil]
    repeat (refine And.intro ?_ ?_; focus (first | exact ordP (by kernel_rfl) | with_reducible exact rfl | assumption | trivial | (simp only [inR]; omega) | omega | (intro hh; (try obtain ⟨hh1, hh2⟩ := hh); (repeat' apply And.intro) <;> first | assumption | (simp only [inR]; omega) | omega | (intros; (repeat' apply And.intro) <;> first | assumption | (simp only [inR]; omega) | omega)) | (intros; (repeat' apply And.intro) <;> first | assumption | (simp only [inR]; omega) | omega | (simp_all; done) | (simp_all [inR]; omega))))
    refine hK8 _ ?_
    clear hK8
    refine W_region hT hG [] [0, 1, 5] ?_
    rw [hnt]
    simp only [baseS, eq_self, implies_true, if_true, if_false, reduceIte, Nat.reduceBEq, Nat.reduceEqDiff, Nat.reduceLT, Nat.reduceAdd, reduceCtorEq, tyInt, tdInt, tyRows, tdRows, tyInts, tdInts, c_laws_markIntS, storeAV, rowQ, ownInts, FT.of, FT.setf, List.nil_append, Int.toNat_natCast, List.set_cons_zero, ne_eq, not_false_eq_true]
    repeat (refine And.intro ?_ ?_; focus (first | exact ordP (by kernel_rfl) | with_reducible exact rfl | assumption | trivial | (simp only [inR]; omega) | omega | (intro hh; (try obtain ⟨hh1, hh2⟩ := hh); (repeat' apply And.intro) <;> first | assumption | (simp only [inR]; omega) | omega | (intros; (repeat' apply And.intro) <;> first | assumption | (simp only [inR]; omega) | omega)) | (intros; (repeat' apply And.intro) <;> first | assumption | (simp only [inR]; omega) | omega | (simp_all; done) | (simp_all [inR]; omega))))
    refine ⟨i + 1, (by (try simp only [hnt, hnp]); rfl), ⟨by omega, by omega⟩, by dsimp only; omega⟩
  · try simp only [decide_eq_true_eq, decide_eq_false_iff_not, ne_eq, Decidable.not_not, Bool.not_eq_true', Bool.not_eq_false', Bool.or_eq_true, Bool.and_eq_true, Bool.or_eq_false_iff, Bool.and_eq_false_iff] at hc7
    refine W_exit ?_
    simp only [thenQ, blockQ, loopQ, reduceIte, Nat.reduceEqDiff]
    refine hK2 _ ?_
    clear hK2
    refine W_seq (fun K9 hK9 => ?_)
    refine W_region hT hG [] [0, 4] ?_
    rw [hnt]
    simp only [baseS, eq_self, implies_true, if_true, if_false, reduceIte, Nat.reduceBEq, Nat.reduceEqDiff, Nat.reduceLT, Nat.reduceAdd, reduceCtorEq, tyInt, tdInt, tyRows, tdRows, tyInts, tdInts, c_laws_markIntS, storeAV, rowQ, ownInts, FT.of, FT.setf, List.nil_append, Int.toNat_natCast, List.set_cons_zero, ne_eq, not_false_eq_true]
    repeat (refine And.intro ?_ ?_; focus (first | exact ordP (by kernel_rfl) | with_reducible exact rfl | assumption | trivial | (simp only [inR]; omega) | omega | (intro hh; (try obtain ⟨hh1, hh2⟩ := hh); (repeat' apply And.intro) <;> first | assumption | (simp only [inR]; omega) | omega | (intros; (repeat' apply And.intro) <;> first | assumption | (simp only [inR]; omega) | omega)) | (intros; (repeat' apply And.intro) <;> first | assumption | (simp only [inR]; omega) | omega | (simp_all; done) | (simp_all [inR]; omega))))
    refine hK9 _ ?_
    clear hK9
    refine W_ret ?_
    simp only [thenQ, blockQ, loopQ, retQ, reduceIte, Nat.reduceEqDiff]
    have hend : i = a.length := by omega
    subst hend
    exact retm 0 rfl rfl rfl rfl (.inr ⟨rfl, rfl⟩) rfl

end Go.Proofs.Ytpiklifnbbhleaa
