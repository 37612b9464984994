/- Walks over the best plugs. No condition. -/
import Derived.Test.YtpiklifnbbhleaaPlugs
namespace Go.Proofs.Ytpiklifnbbhleaa
open Go
set_option linter.unusedVariables false
set_option linter.unusedSimpArgs false

/-- How many plugs are used. -/
def manyP : List Int → Int
  | [] => 0
  | x :: xs => (if 0 ≤ x then 1 else 0) + manyP xs
theorem manyP_step {a : List Int} {i : Int} (h0 : 0 ≤ i) (h : i < a.length) : manyP (a.drop i.toNat) = (if 0 ≤ a.getD i.toNat 0 then 1 else 0) + manyP (a.drop (i + 1).toNat) := by
  have ha : i.toNat < a.length := by omega
  have e : (i + 1).toNat = i.toNat + 1 := by omega
  rw [List.drop_eq_getElem_cons ha, manyP, e, List.getD_eq_getElem?_getD, List.getElem?_eq_getElem ha]
  rfl
theorem manyP_end {a : List Int} {i : Int} (h : ¬ i < a.length) : manyP (a.drop i.toNat) = 0 := by
  rw [List.drop_eq_nil_of_le (by omega)]; rfl

def c_spec_l12Many : Ctr where
  modes := [.v (.r .i64)]
  al := false
  run := fun xs os => match xs, os with
    | [.rs .i64 a], [] => some ⟨a.length ≤ 9223372036854775807, .int (manyP a), [], []⟩
    | _, _ => none
theorem m_spec_l12Many : Meets Try.prog 28 c_spec_l12Many := by
  refine meets_of (T := tyT) tyOK Try.func28 (by rfl) rfl (by decide) ?_
  intro args owns R hrun hpre
  simp only [c_spec_l12Many] at hrun
  split at hrun
  case h_2 => cases hrun
  rename_i a
  cases hrun
  try dsimp only at hpre
  refine ⟨_, rfl, fun E hP hnt hnp => ?_⟩
  replace hnt : E.nt = 19 := hnt
  replace hnp : E.np = 1 := hnp
  have hT : ∀ t d, tyT t = some d → TyOK E.P t d := hP ▸ tyOK
  have hG : ∀ f C, Γof [] f = some C → Meets E.P f C := hΓof (by rw [hP]; exact trivial)
  try simp only [show Try.f28.ntmps = 19 from rfl]
  refine W_seq (fun K1 hK1 => ?_)
  refine W_region hT hG [] [0] ?_
  rw [hnt]
  simp only [baseS, eq_self, implies_true, if_true, if_false, reduceIte, Nat.reduceBEq, Nat.reduceEqDiff, Nat.reduceLT, Nat.reduceAdd, reduceCtorEq, tyInt, tdInt, tyInts, tdInts]
  repeat (refine And.intro ?_ ?_; focus (first | exact ordP (by kernel_rfl) | with_reducible exact rfl | assumption | trivial | (simp only [inR]; omega) | omega | (intro hh; (try obtain ⟨hh1, hh2⟩ := hh); (repeat' apply And.intro) <;> first | assumption | (simp only [inR]; omega) | omega | (intros; (repeat' apply And.intro) <;> first | assumption | (simp only [inR]; omega) | omega)) | (intros; (repeat' apply And.intro) <;> first | assumption | (simp only [inR]; omega) | omega | (simp_all; done) | (simp_all [inR]; omega))))
  refine hK1 _ ?_
  clear hK1
  refine W_seq (fun K2 hK2 => ?_)
  refine W_region hT hG [] [0, 3] ?_
  rw [hnt]
  simp only [baseS, eq_self, implies_true, if_true, if_false, reduceIte, Nat.reduceBEq, Nat.reduceEqDiff, Nat.reduceLT, Nat.reduceAdd, reduceCtorEq, tyInt, tdInt, tyInts, tdInts]
  repeat (refine And.intro ?_ ?_; focus (first | exact ordP (by kernel_rfl) | with_reducible exact rfl | assumption | trivial | (simp only [inR]; omega) | omega | (intro hh; (try obtain ⟨hh1, hh2⟩ := hh); (repeat' apply And.intro) <;> first | assumption | (simp only [inR]; omega) | omega | (intros; (repeat' apply And.intro) <;> first | assumption | (simp only [inR]; omega) | omega)) | (intros; (repeat' apply And.intro) <;> first | assumption | (simp only [inR]; omega) | omega | (simp_all; done) | (simp_all [inR]; omega))))
  refine hK2 _ ?_
  clear hK2
  refine W_seq (fun K3 hK3 => ?_)
  refine W_seq (fun K4 hK4 => ?_)
  refine W_region hT hG [] [0, 3, 4] ?_
  rw [hnt]
  simp only [baseS, eq_self, implies_true, if_true, if_false, reduceIte, Nat.reduceBEq, Nat.reduceEqDiff, Nat.reduceLT, Nat.reduceAdd, reduceCtorEq, tyInt, tdInt, tyInts, tdInts]
  repeat (refine And.intro ?_ ?_; focus (first | exact ordP (by kernel_rfl) | with_reducible exact rfl | assumption | trivial | (simp only [inR]; omega) | omega | (intro hh; (try obtain ⟨hh1, hh2⟩ := hh); (repeat' apply And.intro) <;> first | assumption | (simp only [inR]; omega) | omega | (intros; (repeat' apply And.intro) <;> first | assumption | (simp only [inR]; omega) | omega)) | (intros; (repeat' apply And.intro) <;> first | assumption | (simp only [inR]; omega) | omega | (simp_all; done) | (simp_all [inR]; omega))))
  refine hK4 _ ?_
  clear hK4
  refine W_block ?_
  refine W_loop (α := Int × Int) [(0, .as), (3, .as), (4, .as)] (fun x => ⟨[(0, .rs .i64 a), (3, .int x.2), (4, .int x.1)], [], 19⟩) (fun x => 0 ≤ x.1 ∧ x.1 ≤ a.length ∧ 0 ≤ x.2 ∧ x.2 ≤ x.1 ∧ x.2 + manyP (a.drop x.1.toNat) = manyP a) (fun x => (a.length - x.1).toNat) (0, 0) ?_ ?_ ?_
  · (try simp only [hnt, hnp]); rfl
  · exact ⟨by omega, by omega, by omega, by omega, by simp⟩
  rintro ⟨i, n⟩ ⟨hi0, hi1, hn0, hn1, hI⟩
  dsimp only at hi0 hi1 hn0 hn1 hI ⊢
  refine W_seq (fun K6 hK6 => ?_)
  refine W_seq (fun K7 hK7 => ?_)
  refine W_region hT hG [] [0, 3, 4, 8] ?_
  rw [hnt]
  simp only [baseS, eq_self, implies_true, if_true, if_false, reduceIte, Nat.reduceBEq, Nat.reduceEqDiff, Nat.reduceLT, Nat.reduceAdd, reduceCtorEq, tyInt, tdInt, tyInts, tdInts]
  repeat (refine And.intro ?_ ?_; focus (first | exact ordP (by kernel_rfl) | with_reducible exact rfl | assumption | trivial | (simp only [inR]; omega) | omega | (intro hh; (try obtain ⟨hh1, hh2⟩ := hh); (repeat' apply And.intro) <;> first | assumption | (simp only [inR]; omega) | omega | (intros; (repeat' apply And.intro) <;> first | assumption | (simp only [inR]; omega) | omega)) | (intros; (repeat' apply And.intro) <;> first | assumption | (simp only [inR]; omega) | omega | (simp_all; done) | (simp_all [inR]; omega))))
  refine hK7 _ ?_
  clear hK7
  refine W_cond (b := _) rfl (fun hc8 => ?_) (fun hc8 => ?_)
  · try simp only [decide_eq_true_eq, decide_eq_false_iff_not, ne_eq, Decidable.not_not, Bool.not_eq_true', Bool.not_eq_false', Bool.or_eq_true, Bool.and_eq_true, Bool.or_eq_false_iff, Bool.and_eq_false_iff] at hc8
    refine W_skip ?_
    simp only [thenQ, blockQ, loopQ, reduceIte, Nat.reduceEqDiff]
    refine hK6 _ ?_
    clear hK6
    refine W_seq (fun K9 hK9 => ?_)
    refine W_block ?_
    refine W_seq (fun K10 hK10 => ?_)
    refine W_region hT hG [] [0, 3, 4, 15] ?_
    rw [hnt]
    simp only [baseS, eq_self, implies_true, if_true, if_false, reduceIte, Nat.reduceBEq, Nat.reduceEqDiff, Nat.reduceLT, Nat.reduceAdd, reduceCtorEq, tyInt, tdInt, tyInts, tdInts]
    repeat (refine And.intro ?_ ?_; focus (first | exact ordP (by kernel_rfl) | with_reducible exact rfl | assumption | trivial | (simp only [inR]; omega) | omega | (intro hh; (try obtain ⟨hh1, hh2⟩ := hh); (repeat' apply And.intro) <;> first | assumption | (simp only [inR]; omega) | omega | (intros; (repeat' apply And.intro) <;> first | assumption | (simp only [inR]; omega) | omega)) | (intros; (repeat' apply And.intro) <;> first | assumption | (simp only [inR]; omega) | omega | (simp_all; done) | (simp_all [inR]; omega))))
    refine hK10 _ ?_
    clear hK10
    refine W_cond (b := _) rfl (fun hc11 => ?_) (fun hc11 => ?_)
    · try simp only [decide_eq_true_eq, decide_eq_false_iff_not, ne_eq, Decidable.not_not, Bool.not_eq_true', Bool.not_eq_false', Bool.or_eq_true, Bool.and_eq_true, Bool.or_eq_false_iff, Bool.and_eq_false_iff] at hc11
      refine W_region hT hG [] [0, 3, 4] ?_
      rw [hnt]
      simp only [baseS, eq_self, implies_true, if_true, if_false, reduceIte, Nat.reduceBEq, Nat.reduceEqDiff, Nat.reduceLT, Nat.reduceAdd, reduceCtorEq, tyInt, tdInt, tyInts, tdInts]
      repeat (refine And.intro ?_ ?_; focus (first | exact ordP (by kernel_rfl) | with_reducible exact rfl | assumption | trivial | (simp only [inR]; omega) | omega | (intro hh; (try obtain ⟨hh1, hh2⟩ := hh); (repeat' apply And.intro) <;> first | assumption | (simp only [inR]; omega) | omega | (intros; (repeat' apply And.intro) <;> first | assumption | (simp only [inR]; omega) | omega)) | (intros; (repeat' apply And.intro) <;> first | assumption | (simp only [inR]; omega) | omega | (simp_all; done) | (simp_all [inR]; omega))))
      refine hK9 _ ?_
      clear hK9
      refine W_region hT hG [] [0, 3, 4] ?_
      rw [hnt]
      simp only [baseS, eq_self, implies_true, if_true, if_false, reduceIte, Nat.reduceBEq, Nat.reduceEqDiff, Nat.reduceLT, Nat.reduceAdd, reduceCtorEq, tyInt, tdInt, tyInts, tdInts]
      repeat (refine And.intro ?_ ?_; focus (first | exact ordP (by kernel_rfl) | with_reducible exact rfl | assumption | trivial | (simp only [inR]; omega) | omega | (intro hh; (try obtain ⟨hh1, hh2⟩ := hh); (repeat' apply And.intro) <;> first | assumption | (simp only [inR]; omega) | omega | (intros; (repeat' apply And.intro) <;> first | assumption | (simp only [inR]; omega) | omega)) | (intros; (repeat' apply And.intro) <;> first | assumption | (simp only [inR]; omega) | omega | (simp_all; done) | (simp_all [inR]; omega))))
      first | (refine ⟨(i + 1, n + 1), (by (try simp only [hnt, hnp]); rfl), ?_, by dsimp only; omega⟩; rw [manyP_step hi0 hc8, if_pos hc11] at hI; exact ⟨by dsimp only; omega, by dsimp only; omega, by dsimp only; omega, by dsimp only; omega, by dsimp only; omega⟩) | (refine ⟨(i + 1, n), (by (try simp only [hnt, hnp]); rfl), ?_, by dsimp only; omega⟩; rw [manyP_step hi0 hc8, if_neg hc11] at hI; exact ⟨by dsimp only; omega, by dsimp only; omega, by dsimp only; omega, by dsimp only; omega, by dsimp only; omega⟩)
    · try simp only [decide_eq_true_eq, decide_eq_false_iff_not, ne_eq, Decidable.not_not, Bool.not_eq_true', Bool.not_eq_false', Bool.or_eq_true, Bool.and_eq_true, Bool.or_eq_false_iff, Bool.and_eq_false_iff] at hc11
      refine W_skip ?_
      simp only [thenQ, blockQ, loopQ, reduceIte, Nat.reduceEqDiff]
      refine hK9 _ ?_
      clear hK9
      refine W_region hT hG [] [0, 3, 4] ?_
      rw [hnt]
      simp only [baseS, eq_self, implies_true, if_true, if_false, reduceIte, Nat.reduceBEq, Nat.reduceEqDiff, Nat.reduceLT, Nat.reduceAdd, reduceCtorEq, tyInt, tdInt, tyInts, tdInts]
      repeat (refine And.intro ?_ ?_; focus (first | exact ordP (by kernel_rfl) | with_reducible exact rfl | assumption | trivial | (simp only [inR]; omega) | omega | (intro hh; (try obtain ⟨hh1, hh2⟩ := hh); (repeat' apply And.intro) <;> first | assumption | (simp only [inR]; omega) | omega | (intros; (repeat' apply And.intro) <;> first | assumption | (simp only [inR]; omega) | omega)) | (intros; (repeat' apply And.intro) <;> first | assumption | (simp only [inR]; omega) | omega | (simp_all; done) | (simp_all [inR]; omega))))
      first | (refine ⟨(i + 1, n + 1), (by (try simp only [hnt, hnp]); rfl), ?_, by dsimp only; omega⟩; rw [manyP_step hi0 hc8, if_pos hc11] at hI; exact ⟨by dsimp only; omega, by dsimp only; omega, by dsimp only; omega, by dsimp only; omega, by dsimp only; omega⟩) | (refine ⟨(i + 1, n), (by (try simp only [hnt, hnp]); rfl), ?_, by dsimp only; omega⟩; rw [manyP_step hi0 hc8, if_neg hc11] at hI; exact ⟨by dsimp only; omega, by dsimp only; omega, by dsimp only; omega, by dsimp only; omega, by dsimp only; omega⟩)
  · try simp only [decide_eq_true_eq, decide_eq_false_iff_not, ne_eq, Decidable.not_not, Bool.not_eq_true', Bool.not_eq_false', Bool.or_eq_true, Bool.and_eq_true, Bool.or_eq_false_iff, Bool.and_eq_false_iff] at hc8
    refine W_exit ?_
    simp only [thenQ, blockQ, loopQ, reduceIte, Nat.reduceEqDiff]
    refine hK3 _ ?_
    clear hK3
    refine W_seq (fun K12 hK12 => ?_)
    refine W_region hT hG [] [2] ?_
    rw [hnt]
    simp only [baseS, eq_self, implies_true, if_true, if_false, reduceIte, Nat.reduceBEq, Nat.reduceEqDiff, Nat.reduceLT, Nat.reduceAdd, reduceCtorEq, tyInt, tdInt, tyInts, tdInts]
    repeat (refine And.intro ?_ ?_; focus (first | exact ordP (by kernel_rfl) | with_reducible exact rfl | assumption | trivial | (simp only [inR]; omega) | omega | (intro hh; (try obtain ⟨hh1, hh2⟩ := hh); (repeat' apply And.intro) <;> first | assumption | (simp only [inR]; omega) | omega | (intros; (repeat' apply And.intro) <;> first | assumption | (simp only [inR]; omega) | omega)) | (intros; (repeat' apply And.intro) <;> first | assumption | (simp only [inR]; omega) | omega | (simp_all; done) | (simp_all [inR]; omega))))
    refine hK12 _ ?_
    clear hK12
    refine W_ret ?_
    simp only [thenQ, blockQ, loopQ, retQ, reduceIte, Nat.reduceEqDiff]
    refine ret0 ?_ rfl rfl (.inr rfl) rfl
    simp only [show Try.f28.results.toList = [ResultVar.tmp 2] from rfl, resAV, resL, look, Nat.reduceEqDiff, reduceIte, applyUps, noH, isStr, List.length_cons, List.length_nil, Nat.reduceAdd, and_self]
    all_goals (
      refine congrArg (fun x => some (AV.int x)) ?_
      rw [manyP_end hc8] at hI; omega)

theorem manyP_app : ∀ a b : List Int, manyP (a ++ b) = manyP a + manyP b
  | [], b => by simp [manyP]
  | x :: xs, b => by simp only [List.cons_append, manyP, manyP_app xs b]; omega
theorem manyP_le : ∀ a : List Int, 0 ≤ manyP a ∧ manyP a ≤ a.length
  | [] => by simp [manyP]
  | x :: xs => by have := manyP_le xs; simp only [manyP, List.length_cons]; split <;> omega
def stepI (g : Nat → List Int × Int) (tk : Nat) (s : List Int × Int) (x : Int) : List Int × Int :=
  if tk.testBit x.toNat = true then s else if s.2 < (g (tk ||| 2 ^ x.toNat)).2 + 1 then (x :: (g (tk ||| 2 ^ x.toNat)).1, (g (tk ||| 2 ^ x.toNat)).2 + 1) else s
/-- The best plugs where some are taken, and how many are plugged in. -/
def plugI : List (List Int) → Nat → List Int × Int
  | [], _ => ([], 0)
  | us :: rest, tk => if (us.foldl (stepI (plugI rest) tk) ([], -1)).2 < (plugI rest tk).2 then (-1 :: (plugI rest tk).1, (plugI rest tk).2) else us.foldl (stepI (plugI rest) tk) ([], -1)
def stepS (g : List Int → List Int) (pl : List Int) (s : List Int) (x : Int) : List Int :=
  if x ∈ pl then s else if s.length = 0 ∨ manyP s < manyP (g (pl ++ [x])) then g (pl ++ [x]) else s
/-- The best plugs that begin with some. -/
def plugS : List (List Int) → List Int → List Int
  | [], pl => pl
  | us :: rest, pl => if (us.foldl (stepS (plugS rest) pl) []).length = 0 ∨ manyP (us.foldl (stepS (plugS rest) pl) []) < manyP (plugS rest (pl ++ [-1])) then plugS rest (pl ++ [-1]) else us.foldl (stepS (plugS rest) pl) []
theorem foldl_rel {α β γ : Type} {R : α → β → Prop} {f : α → γ → α} {g : β → γ → β} : ∀ (l : List γ) (a : α) (b : β), R a b → (∀ a b x, x ∈ l → R a b → R (f a x) (g b x)) → R (l.foldl f a) (l.foldl g b)
  | [], _, _, h, _ => h
  | x :: l, a, b, h, hs => foldl_rel l _ _ (hs a b x (by simp) h) (fun a b y hy => hs a b y (by simp [hy]))
theorem bit_or {tk k j : Nat} : (tk ||| 2 ^ k).testBit j = (tk.testBit j || decide (k = j)) := by
  rw [Nat.testBit_or, Nat.testBit_two_pow]
theorem plug_same : ∀ (u : List (List Int)) (tk : Nat) (pl : List Int), (∀ xs ∈ u, ∀ x ∈ xs, 0 ≤ x) → (∀ x : Int, 0 ≤ x → (tk.testBit x.toNat = true ↔ x ∈ pl)) →
    plugS u pl = pl ++ (plugI u tk).1 ∧ manyP (plugI u tk).1 = (plugI u tk).2 ∧ (plugI u tk).1.length = u.length
  | [], tk, pl, _, _ => by simp [plugS, plugI, manyP]
  | us :: rest, tk, pl, hu, hb => by
    have hrest : ∀ xs ∈ rest, ∀ x ∈ xs, 0 ≤ x := fun xs hx => hu xs (by simp [hx])
    have hR := foldl_rel (R := fun (a : List Int × Int) (b : List Int) => (a = ([], -1) ∧ b = []) ∨ (manyP a.1 = a.2 ∧ b = pl ++ a.1 ∧ a.1.length = rest.length + 1))
      (f := stepI (plugI rest) tk) (g := stepS (plugS rest) pl) us ([], -1) [] (.inl ⟨rfl, rfl⟩) (by
        intro a b x hx hab
        have hx0 : 0 ≤ x := hu us (by simp) x hx
        by_cases hm : x ∈ pl
        · rw [stepI, if_pos ((hb x hx0).2 hm), stepS, if_pos hm]; exact hab
        · rw [stepI, if_neg (fun h => hm ((hb x hx0).1 h)), stepS, if_neg hm]
          have hb2 : ∀ y : Int, 0 ≤ y → ((tk ||| 2 ^ x.toNat).testBit y.toNat = true ↔ y ∈ pl ++ [x]) := by
            intro y hy
            rw [bit_or, Bool.or_eq_true, hb y hy, decide_eq_true_eq, List.mem_append, List.mem_singleton]
            constructor
            · rintro (h | h)
              · exact .inl h
              · right; omega
            · rintro (h | h)
              · exact .inl h
              · right; rw [h]
          obtain ⟨h1, h2, h3⟩ := plug_same rest (tk ||| 2 ^ x.toNat) (pl ++ [x]) hrest hb2
          have hm1 : manyP (plugS rest (pl ++ [x])) = manyP pl + ((plugI rest (tk ||| 2 ^ x.toNat)).2 + 1) := by
            rw [h1, manyP_app, manyP_app, h2]; simp only [manyP, hx0, if_true]; omega
          have h0 := manyP_le (plugI rest (tk ||| 2 ^ x.toNat)).1
          have new : manyP (x :: (plugI rest (tk ||| 2 ^ x.toNat)).1) = (plugI rest (tk ||| 2 ^ x.toNat)).2 + 1 ∧ plugS rest (pl ++ [x]) = pl ++ (x :: (plugI rest (tk ||| 2 ^ x.toNat)).1) ∧ (x :: (plugI rest (tk ||| 2 ^ x.toNat)).1).length = rest.length + 1 := by
            refine ⟨by simp only [manyP, hx0, if_true, h2]; omega, by rw [h1]; simp, by simp [h3]⟩
          rcases hab with ⟨rfl, rfl⟩ | ⟨h4, h5, h6⟩
          · rw [if_pos (by show (-1 : Int) < _; omega), if_pos (.inl rfl)]
            exact .inr new
          · have hbl : ¬ b.length = 0 := by rw [h5, List.length_append]; omega
            have hbm : manyP b = manyP pl + a.2 := by rw [h5, manyP_app, h4]
            by_cases hlt : a.2 < (plugI rest (tk ||| 2 ^ x.toNat)).2 + 1
            · rw [if_pos hlt, if_pos (.inr (by omega))]
              exact .inr new
            · rw [if_neg hlt, if_neg (by omega)]
              exact .inr ⟨h4, h5, h6⟩)
    have hb2 : ∀ y : Int, 0 ≤ y → (tk.testBit y.toNat = true ↔ y ∈ pl ++ [-1]) := by
      intro y hy
      rw [hb y hy, List.mem_append, List.mem_singleton]
      constructor
      · exact .inl
      · rintro (h | h)
        · exact h
        · omega
    obtain ⟨h1, h2, h3⟩ := plug_same rest tk (pl ++ [-1]) hrest hb2
    have hm1 : manyP (plugS rest (pl ++ [-1])) = manyP pl + (plugI rest tk).2 := by
      rw [h1, manyP_app, manyP_app, h2]; simp [manyP]
    have h0 := manyP_le (plugI rest tk).1
    have new : plugS rest (pl ++ [-1]) = pl ++ (-1 :: (plugI rest tk).1) ∧ manyP (-1 :: (plugI rest tk).1) = (plugI rest tk).2 ∧ (-1 :: (plugI rest tk).1).length = rest.length + 1 :=
      ⟨by rw [h1]; simp, by simp [manyP, h2], by simp [h3]⟩
    simp only [plugI, plugS, List.length_cons]
    rcases hR with ⟨h4, h5⟩ | ⟨h4, h5, h6⟩
    · rw [h4, h5, if_pos (.inl rfl), if_pos (by show (-1 : Int) < _; omega)]
      exact new
    · have hbl : ¬ (us.foldl (stepS (plugS rest) pl) []).length = 0 := by rw [h5, List.length_append]; omega
      have hbm : manyP (us.foldl (stepS (plugS rest) pl) []) = manyP pl + (us.foldl (stepI (plugI rest) tk) ([], -1)).2 := by rw [h5, manyP_app, h4]
      by_cases hlt : (us.foldl (stepI (plugI rest) tk) ([], -1)).2 < (plugI rest tk).2
      · rw [if_pos hlt, if_pos (.inr (by omega))]
        exact new
      · rw [if_neg hlt, if_neg (by omega)]
        exact ⟨h5, h4, h6⟩

theorem plugI_ne {u : List (List Int)} (h : ¬ u.length = 0) (tk : Nat) : plugI u tk = if ((u.getD 0 []).foldl (stepI (plugI (u.drop 1)) tk) ([], -1)).2 < (plugI (u.drop 1) tk).2 then (-1 :: (plugI (u.drop 1) tk).1, (plugI (u.drop 1) tk).2) else (u.getD 0 []).foldl (stepI (plugI (u.drop 1)) tk) ([], -1) := by
  cases u with
  | nil => exact absurd rfl h
  | cons us rest => rfl
def accI (u : List (List Int)) (tk : Nat) (i : Nat) : List Int × Int := ((u.getD 0 []).take i).foldl (stepI (plugI (u.drop 1)) tk) ([], -1)
theorem accI_step {u : List (List Int)} {tk : Nat} {i : Int} (h0 : 0 ≤ i) (h : i < (u.getD 0 []).length) : accI u tk (i + 1).toNat = stepI (plugI (u.drop 1)) tk (accI u tk i.toNat) ((u.getD 0 []).getD i.toNat 0) := by
  have ha : i.toNat < (u.getD 0 []).length := by omega
  have e : (i + 1).toNat = i.toNat + 1 := by omega
  have e2 : (u.getD 0 []).getD i.toNat 0 = (u.getD 0 [])[i.toNat] := by rw [List.getD_eq_getElem?_getD, List.getElem?_eq_getElem ha]; rfl
  rw [accI, e, List.take_add_one, List.getElem?_eq_getElem ha, Option.toList_some, List.foldl_append, accI, e2]
  rfl
theorem accI_end {u : List (List Int)} {tk : Nat} {i : Int} (h : ¬ i < (u.getD 0 []).length) : accI u tk i.toNat = (u.getD 0 []).foldl (stepI (plugI (u.drop 1)) tk) ([], -1) := by
  rw [accI, List.take_of_length_le (by omega)]
theorem plugI_le : ∀ (u : List (List Int)) (tk : Nat), ((plugI u tk).1.length = u.length ∧ 0 ≤ (plugI u tk).2) ∧ (plugI u tk).2 ≤ u.length
  | [], tk => by simp [plugI]
  | us :: rest, tk => by
    have key : ∀ (l : List Int) (s : List Int × Int), ((s = ([], -1)) ∨ ((s.1.length = rest.length + 1 ∧ 0 ≤ s.2) ∧ s.2 ≤ rest.length + 1)) → ((l.foldl (stepI (plugI rest) tk) s = ([], -1)) ∨ (((l.foldl (stepI (plugI rest) tk) s).1.length = rest.length + 1 ∧ 0 ≤ (l.foldl (stepI (plugI rest) tk) s).2) ∧ (l.foldl (stepI (plugI rest) tk) s).2 ≤ rest.length + 1)) := by
      intro l
      induction l with
      | nil => intro s h; exact h
      | cons x l ih =>
        intro s h
        refine ih _ ?_
        unfold stepI
        have := plugI_le rest (tk ||| 2 ^ x.toNat)
        split
        · exact h
        · split
          · right; simp only [List.length_cons]; omega
          · exact h
    have h1 := key us ([], -1) (.inl rfl)
    have h2 := plugI_le rest tk
    simp only [plugI, List.length_cons]
    split
    · simp only [List.length_cons]; omega
    · rename_i hn
      rcases h1 with h1 | h1
      · rw [h1] at hn; dsimp only at hn; omega
      · omega
theorem accI_le (u : List (List Int)) (tk : Nat) (i : Nat) : ((accI u tk i).1.length ≤ u.length + 1 ∧ -1 ≤ (accI u tk i).2) ∧ (accI u tk i).2 ≤ u.length + 1 := by
  have key : ∀ (l : List Int) (s : List Int × Int), (((s.1.length ≤ u.length + 1 ∧ -1 ≤ s.2) ∧ s.2 ≤ u.length + 1)) → ((((l.foldl (stepI (plugI (u.drop 1)) tk) s).1.length ≤ u.length + 1 ∧ -1 ≤ (l.foldl (stepI (plugI (u.drop 1)) tk) s).2) ∧ (l.foldl (stepI (plugI (u.drop 1)) tk) s).2 ≤ u.length + 1)) := by
    intro l
    induction l with
    | nil => intro s h; exact h
    | cons x l ih =>
      intro s h
      refine ih _ ?_
      unfold stepI
      have h1 := plugI_le (u.drop 1) (tk ||| 2 ^ x.toNat)
      have h2 : (u.drop 1).length ≤ u.length := by rw [List.length_drop]; omega
      split
      · exact h
      · split
        · simp only [List.length_cons]; omega
        · exact h
  exact key _ ([], -1) (by simp; omega)
theorem bit_iff {tk : Int} {k : Nat} (h : 0 ≤ tk) : (((tk / 2 ^ k).toNat &&& 1 : Nat) : Int) = 1 ↔ tk.toNat.testBit k = true := by
  have e : (tk / 2 ^ k).toNat = tk.toNat / 2 ^ k := by
    obtain ⟨n, rfl⟩ := Int.eq_ofNat_of_zero_le h
    rw [Int.toNat_natCast]
    have e2 : (n : Int) / 2 ^ k = ((n / 2 ^ k : Nat) : Int) := by norm_cast
    rw [e2, Int.toNat_natCast]
  rw [e, Nat.and_one_is_mod, Nat.testBit_eq_decide_div_mod_eq, decide_eq_true_eq]
  omega
theorem tk_next {tk x : Int} (h0 : 0 ≤ tk) (h1 : tk < 64) (hx0 : 0 ≤ x) (hx1 : x ≤ 5) : tk.toNat ||| (1 * 2 ^ x.toNat : Int).toNat = tk.toNat ||| 2 ^ x.toNat ∧ (0 ≤ ((tk.toNat ||| (1 * 2 ^ x.toNat : Int).toNat : Nat) : Int) ∧ ((tk.toNat ||| (1 * 2 ^ x.toNat : Int).toNat : Nat) : Int) < 64) := by
  have e : (1 * 2 ^ x.toNat : Int).toNat = 2 ^ x.toNat := by rw [Int.one_mul]; norm_cast
  rw [e]
  refine ⟨rfl, by omega, ?_⟩
  have h2 : tk.toNat < 2 ^ 6 := by omega
  have h3 : 2 ^ x.toNat < 2 ^ 6 := Nat.pow_lt_pow_right (by omega) (by omega)
  have := Nat.or_lt_two_pow h2 h3
  omega
theorem div_box {tk : Int} (h : 0 ≤ tk ∧ tk < 64) (k : Nat) : 0 ≤ tk / 2 ^ k ∧ tk / 2 ^ k ≤ tk := ⟨Int.ediv_nonneg h.1 (Int.le_of_lt (Int.pow_pos (by omega))), Int.ediv_le_self _ h.1⟩
def usesP (u : List (List Int)) : Prop := ∀ xs ∈ u, xs.length ≤ 9223372036854775807 ∧ ∀ x ∈ xs, 0 ≤ x ∧ x ≤ 5
theorem usesP_get {u : List (List Int)} (h : usesP u) (i : Nat) : (u.getD i []).length ≤ 9223372036854775807 ∧ ∀ j, 0 ≤ (u.getD i []).getD j 0 ∧ (u.getD i []).getD j 0 ≤ 5 := by
  have h1 : (u.getD i []).length ≤ 9223372036854775807 ∧ ∀ x ∈ u.getD i [], 0 ≤ x ∧ x ≤ 5 := by
    rw [List.getD_eq_getElem?_getD]
    cases hx : u[i]? with
    | none => simp
    | some xs => exact h xs (List.mem_of_getElem? hx)
  refine ⟨h1.1, fun j => ?_⟩
  rw [List.getD_eq_getElem?_getD]
  cases hx : (u.getD i [])[j]? with
  | none => simp
  | some x => exact h1.2 x (List.mem_of_getElem? hx)
theorem usesP_drop {u : List (List Int)} (h : usesP u) (k : Nat) : usesP (u.drop k) := fun xs hx => h xs (List.mem_of_mem_drop hx)
theorem pow_box {x : Int} (h0 : 0 ≤ x) (h1 : x ≤ 5) : 1 ≤ (2 : Int) ^ x.toNat ∧ (2 : Int) ^ x.toNat ≤ 32 := by
  have : x = 0 ∨ x = 1 ∨ x = 2 ∨ x = 3 ∨ x = 4 ∨ x = 5 := by omega
  rcases this with rfl | rfl | rfl | rfl | rfl | rfl <;> decide

def cR_impl_plugIn (n : Nat) : Ctr where
  modes := [.v .rr, .v .p]
  al := false
  run := fun xs os => match xs, os with
    | [.rows u, .int tk], [] => some ⟨u.length < n ∧ (0 ≤ tk ∧ tk < 64) ∧ u.length ≤ 6 ∧ usesP u, .tup [.sl 0, .int (plugI u tk.toNat).2], [.sl 3 .i64 (plugI u tk.toNat).1], []⟩
    | _, _ => none
def c_impl_plugIn : Ctr := cR_impl_plugIn 8
theorem m0_impl_plugIn : Meets Try.prog 21 (cR_impl_plugIn 0) := by
  refine meets_of (T := tyT) tyOK Try.func21 (by rfl) rfl (Nat.le_of_ble_eq_true rfl) ?_
  intro args owns R hrun hpre
  simp only [cR_impl_plugIn] at hrun
  split at hrun
  case h_2 => cases hrun
  cases hrun
  exact absurd hpre.1 (Nat.not_lt_zero _)
set_option maxRecDepth 20000 in
set_option maxHeartbeats 1000000 in
theorem mS_impl_plugIn (n : Nat) (ih : Meets Try.prog 21 (cR_impl_plugIn n)) : Meets Try.prog 21 (cR_impl_plugIn (n + 1)) := by
  refine meets_of (T := tyT) tyOK Try.func21 (by rfl) rfl (Nat.le_of_ble_eq_true rfl) ?_
  intro args owns R hrun hpre
  simp only [cR_impl_plugIn] at hrun
  split at hrun
  case h_2 => cases hrun
  rename_i u tk
  cases hrun
  try dsimp only at hpre
  refine ⟨_, rfl, fun E hP hnt hnp => ?_⟩
  replace hnt : E.nt = 67 := hnt
  replace hnp : E.np = 2 := hnp
  have hT : ∀ t d, tyT t = some d → TyOK E.P t d := hP ▸ tyOK
  have hG : ∀ f C, Γof [(21, cR_impl_plugIn n)] f = some C → Meets E.P f C := hΓof (by rw [hP]; exact ⟨ih, trivial⟩)
  try simp only [show Try.f21.ntmps = 67 from rfl]
  have hn := hpre.1
  have htk := hpre.2.1
  have hul := hpre.2.2.1
  have hu := hpre.2.2.2
  have hu0 := usesP_get hu 0
  have hud := usesP_drop hu 1
  have hdl : (u.drop 1).length = u.length - 1 := List.length_drop
  have hp0 := plugI_le (u.drop 1) tk.toNat
  refine W_seq (fun K1 hK1 => ?_)
  refine W_region hT hG [] [0, 1] ?_
  rw [hnt]
  simp only [baseS, eq_self, implies_true, if_true, if_false, reduceIte, Nat.reduceBEq, Nat.reduceEqDiff, Nat.reduceLT, Nat.reduceAdd, reduceCtorEq, tyInt, tdInt, tyRows, tdRows, tyInts, tdInts, cR_impl_plugIn, decide_false, room, Nat.reduceLeDiff, Nat.zero_le, storeAV, rowQ, ownInts, FT.of, FT.setf, elems, appAV_I, appI, srcI, ownI, anyI, sameR, appAV_P, appP, srcP, ownP, anyP, Int.toNat_one, Int.toNat_natCast]
  repeat (refine And.intro ?_ ?_; focus (first | exact ordP (by kernel_rfl) | with_reducible exact rfl | assumption | trivial | (simp only [inR]; omega) | omega | exact ⟨by omega, by omega⟩ | exact ⟨by omega, by omega, by omega⟩ | exact ⟨by omega, ⟨by omega, by omega⟩, by omega, hud⟩ | exact ⟨by omega, htn.2, by omega, hud⟩ | ((try simp only [decide_eq_true_eq, Bool.and_eq_true, ne_eq, decide_not, Bool.not_eq_true', Bool.not_eq_false', Bool.or_eq_false_iff, Bool.not_not, decide_eq_false_iff_not]); (try intro hh); (repeat' apply And.intro) <;> (first | omega | (simp only [inR]; omega) | assumption | exact ⟨by omega, ⟨by omega, by omega⟩, by omega, hud⟩ | exact ⟨by omega, htn.2, by omega, hud⟩ | exact hh.1 | exact hh.2 | exact hh.2.1 | exact hh.2.2 | exact hh.1.1 | exact hh.1.2 | (intro hq; exact ⟨hh, hq⟩) | (intro hq; exact ⟨hh.1, hq⟩) | (simp_all; done)))))
  refine hK1 _ ?_
  clear hK1
  refine W_seq (fun K2 hK2 => ?_)
  refine W_seq (fun K3 hK3 => ?_)
  refine W_region hT hG [] [0, 1, 16] ?_
  rw [hnt]
  simp only [baseS, eq_self, implies_true, if_true, if_false, reduceIte, Nat.reduceBEq, Nat.reduceEqDiff, Nat.reduceLT, Nat.reduceAdd, reduceCtorEq, tyInt, tdInt, tyRows, tdRows, tyInts, tdInts, cR_impl_plugIn, decide_false, room, Nat.reduceLeDiff, Nat.zero_le, storeAV, rowQ, ownInts, FT.of, FT.setf, elems, appAV_I, appI, srcI, ownI, anyI, sameR, appAV_P, appP, srcP, ownP, anyP, Int.toNat_one, Int.toNat_natCast]
  repeat (refine And.intro ?_ ?_; focus (first | exact ordP (by kernel_rfl) | with_reducible exact rfl | assumption | trivial | (simp only [inR]; omega) | omega | exact ⟨by omega, by omega⟩ | exact ⟨by omega, by omega, by omega⟩ | exact ⟨by omega, ⟨by omega, by omega⟩, by omega, hud⟩ | exact ⟨by omega, htn.2, by omega, hud⟩ | ((try simp only [decide_eq_true_eq, Bool.and_eq_true, ne_eq, decide_not, Bool.not_eq_true', Bool.not_eq_false', Bool.or_eq_false_iff, Bool.not_not, decide_eq_false_iff_not]); (try intro hh); (repeat' apply And.intro) <;> (first | omega | (simp only [inR]; omega) | assumption | exact ⟨by omega, ⟨by omega, by omega⟩, by omega, hud⟩ | exact ⟨by omega, htn.2, by omega, hud⟩ | exact hh.1 | exact hh.2 | exact hh.2.1 | exact hh.2.2 | exact hh.1.1 | exact hh.1.2 | (intro hq; exact ⟨hh, hq⟩) | (intro hq; exact ⟨hh.1, hq⟩) | (simp_all; done)))))
  refine hK3 _ ?_
  clear hK3
  refine W_cond (b := _) rfl (fun hc4 => ?_) (fun hc4 => ?_)
  · try simp only [decide_eq_true_eq, decide_eq_false_iff_not, ne_eq, Decidable.not_not, Bool.not_eq_true', Bool.not_eq_false', Bool.or_eq_true, Bool.and_eq_true, Bool.or_eq_false_iff, Bool.and_eq_false_iff] at hc4
    refine W_seq (fun K5 hK5 => ?_)
    refine W_region hT hG [] [4, 5] ?_
    rw [hnt]
    simp only [baseS, eq_self, implies_true, if_true, if_false, reduceIte, Nat.reduceBEq, Nat.reduceEqDiff, Nat.reduceLT, Nat.reduceAdd, reduceCtorEq, tyInt, tdInt, tyRows, tdRows, tyInts, tdInts, cR_impl_plugIn, decide_false, room, Nat.reduceLeDiff, Nat.zero_le, storeAV, rowQ, ownInts, FT.of, FT.setf, elems, appAV_I, appI, srcI, ownI, anyI, sameR, appAV_P, appP, srcP, ownP, anyP, Int.toNat_one, Int.toNat_natCast]
    repeat (refine And.intro ?_ ?_; focus (first | exact ordP (by kernel_rfl) | with_reducible exact rfl | assumption | trivial | (simp only [inR]; omega) | omega | exact ⟨by omega, by omega⟩ | exact ⟨by omega, by omega, by omega⟩ | exact ⟨by omega, ⟨by omega, by omega⟩, by omega, hud⟩ | exact ⟨by omega, htn.2, by omega, hud⟩ | ((try simp only [decide_eq_true_eq, Bool.and_eq_true, ne_eq, decide_not, Bool.not_eq_true', Bool.not_eq_false', Bool.or_eq_false_iff, Bool.not_not, decide_eq_false_iff_not]); (try intro hh); (repeat' apply And.intro) <;> (first | omega | (simp only [inR]; omega) | assumption | exact ⟨by omega, ⟨by omega, by omega⟩, by omega, hud⟩ | exact ⟨by omega, htn.2, by omega, hud⟩ | exact hh.1 | exact hh.2 | exact hh.2.1 | exact hh.2.2 | exact hh.1.1 | exact hh.1.2 | (intro hq; exact ⟨hh, hq⟩) | (intro hq; exact ⟨hh.1, hq⟩) | (simp_all; done)))))
    refine hK5 _ ?_
    clear hK5
    refine W_re [(4, .own 3 .i64), (5, .as)] (by (try simp only [hnt, hnp]); rfl) ?_
    refine W_ret ?_
    simp only [thenQ, blockQ, loopQ, retQ, reduceIte, Nat.reduceEqDiff]
    refine ret1si 4 rfl rfl rfl ?_ ?_
    all_goals (
      first
      | (have e := List.eq_nil_of_length_eq_zero (by omega : u.length = 0); subst e; rfl)
      | (have e := plugI_ne (u := u) (by omega) tk.toNat; rw [← accI_end (tk := tk.toNat) HCPREV, ← hI] at e; dsimp only at e; rw [e]; first | (rw [if_pos hc4]; done) | (rw [if_neg hc4]; done)))
  · try simp only [decide_eq_true_eq, decide_eq_false_iff_not, ne_eq, Decidable.not_not, Bool.not_eq_true', Bool.not_eq_false', Bool.or_eq_true, Bool.and_eq_true, Bool.or_eq_false_iff, Bool.and_eq_false_iff] at hc4
    refine W_skip ?_
    simp only [thenQ, blockQ, loopQ, reduceIte, Nat.reduceEqDiff]
    refine hK2 _ ?_
    clear hK2
    refine W_seq (fun K6 hK6 => ?_)
    refine W_region hT hG [] [0, 1, 6] ?_
    rw [hnt]
    simp only [baseS, eq_self, implies_true, if_true, if_false, reduceIte, Nat.reduceBEq, Nat.reduceEqDiff, Nat.reduceLT, Nat.reduceAdd, reduceCtorEq, tyInt, tdInt, tyRows, tdRows, tyInts, tdInts, cR_impl_plugIn, decide_false, room, Nat.reduceLeDiff, Nat.zero_le, storeAV, rowQ, ownInts, FT.of, FT.setf, elems, appAV_I, appI, srcI, ownI, anyI, sameR, appAV_P, appP, srcP, ownP, anyP, Int.toNat_one, Int.toNat_natCast]
    repeat (refine And.intro ?_ ?_; focus (first | exact ordP (by kernel_rfl) | with_reducible exact rfl | assumption | trivial | (simp only [inR]; omega) | omega | exact ⟨by omega, by omega⟩ | exact ⟨by omega, by omega, by omega⟩ | exact ⟨by omega, ⟨by omega, by omega⟩, by omega, hud⟩ | exact ⟨by omega, htn.2, by omega, hud⟩ | ((try simp only [decide_eq_true_eq, Bool.and_eq_true, ne_eq, decide_not, Bool.not_eq_true', Bool.not_eq_false', Bool.or_eq_false_iff, Bool.not_not, decide_eq_false_iff_not]); (try intro hh); (repeat' apply And.intro) <;> (first | omega | (simp only [inR]; omega) | assumption | exact ⟨by omega, ⟨by omega, by omega⟩, by omega, hud⟩ | exact ⟨by omega, htn.2, by omega, hud⟩ | exact hh.1 | exact hh.2 | exact hh.2.1 | exact hh.2.2 | exact hh.1.1 | exact hh.1.2 | (intro hq; exact ⟨hh, hq⟩) | (intro hq; exact ⟨hh.1, hq⟩) | (simp_all; done)))))
    refine hK6 _ ?_
    clear hK6
    refine W_seq (fun K7 hK7 => ?_)
    refine W_region hT hG [] [0, 1, 6, 7] ?_
    rw [hnt]
    simp only [baseS, eq_self, implies_true, if_true, if_false, reduceIte, Nat.reduceBEq, Nat.reduceEqDiff, Nat.reduceLT, Nat.reduceAdd, reduceCtorEq, tyInt, tdInt, tyRows, tdRows, tyInts, tdInts, cR_impl_plugIn, decide_false, room, Nat.reduceLeDiff, Nat.zero_le, storeAV, rowQ, ownInts, FT.of, FT.setf, elems, appAV_I, appI, srcI, ownI, anyI, sameR, appAV_P, appP, srcP, ownP, anyP, Int.toNat_one, Int.toNat_natCast]
    repeat (refine And.intro ?_ ?_; focus (first | exact ordP (by kernel_rfl) | with_reducible exact rfl | assumption | trivial | (simp only [inR]; omega) | omega | exact ⟨by omega, by omega⟩ | exact ⟨by omega, by omega, by omega⟩ | exact ⟨by omega, ⟨by omega, by omega⟩, by omega, hud⟩ | exact ⟨by omega, htn.2, by omega, hud⟩ | ((try simp only [decide_eq_true_eq, Bool.and_eq_true, ne_eq, decide_not, Bool.not_eq_true', Bool.not_eq_false', Bool.or_eq_false_iff, Bool.not_not, decide_eq_false_iff_not]); (try intro hh); (repeat' apply And.intro) <;> (first | omega | (simp only [inR]; omega) | assumption | exact ⟨by omega, ⟨by omega, by omega⟩, by omega, hud⟩ | exact ⟨by omega, htn.2, by omega, hud⟩ | exact hh.1 | exact hh.2 | exact hh.2.1 | exact hh.2.2 | exact hh.1.1 | exact hh.1.2 | (intro hq; exact ⟨hh, hq⟩) | (intro hq; exact ⟨hh.1, hq⟩) | (simp_all; done)))))
    refine hK7 _ ?_
    clear hK7
    refine W_seq (fun K8 hK8 => ?_)
    refine W_seq (fun K9 hK9 => ?_)
    refine W_region hT hG [] [0, 1, 6, 7, 19, 20, 21] ?_
    rw [hnt]
    simp only [baseS, eq_self, implies_true, if_true, if_false, reduceIte, Nat.reduceBEq, Nat.reduceEqDiff, Nat.reduceLT, Nat.reduceAdd, reduceCtorEq, tyInt, tdInt, tyRows, tdRows, tyInts, tdInts, cR_impl_plugIn, decide_false, room, Nat.reduceLeDiff, Nat.zero_le, storeAV, rowQ, ownInts, FT.of, FT.setf, elems, appAV_I, appI, srcI, ownI, anyI, sameR, appAV_P, appP, srcP, ownP, anyP, Int.toNat_one, Int.toNat_natCast]
    repeat (refine And.intro ?_ ?_; focus (first | exact ordP (by kernel_rfl) | with_reducible exact rfl | assumption | trivial | (simp only [inR]; omega) | omega | exact ⟨by omega, by omega⟩ | exact ⟨by omega, by omega, by omega⟩ | exact ⟨by omega, ⟨by omega, by omega⟩, by omega, hud⟩ | exact ⟨by omega, htn.2, by omega, hud⟩ | ((try simp only [decide_eq_true_eq, Bool.and_eq_true, ne_eq, decide_not, Bool.not_eq_true', Bool.not_eq_false', Bool.or_eq_false_iff, Bool.not_not, decide_eq_false_iff_not]); (try intro hh); (repeat' apply And.intro) <;> (first | omega | (simp only [inR]; omega) | assumption | exact ⟨by omega, ⟨by omega, by omega⟩, by omega, hud⟩ | exact ⟨by omega, htn.2, by omega, hud⟩ | exact hh.1 | exact hh.2 | exact hh.2.1 | exact hh.2.2 | exact hh.1.1 | exact hh.1.2 | (intro hq; exact ⟨hh, hq⟩) | (intro hq; exact ⟨hh.1, hq⟩) | (simp_all; done)))))
    refine hK9 _ ?_
    clear hK9
    refine W_block ?_
    refine W_loop (α := Int × List Int × Int) [(0, .as), (1, .as), (6, .own 3 .i64), (7, .as), (19, .as), (20, .as), (21, .as)] (fun x => ⟨[(0, .rows u), (1, .int tk), (6, .sl 6), (7, .int x.2.2), (19, .rs .i64 (u.getD 0 [])), (20, .int (u.getD 0 []).length), (21, .int x.1)], [(6, some (.sl 3 .i64 x.2.1))], 67⟩) (fun x => 0 ≤ x.1 ∧ x.1 ≤ (u.getD 0 []).length ∧ x.2 = accI u tk.toNat x.1.toNat) (fun x => ((u.getD 0 []).length - x.1).toNat) (0, [], -1) ?_ ?_ ?_
    · (try simp only [hnt, hnp]); rfl
    · exact ⟨by omega, by omega, rfl⟩
    rintro ⟨i, best, most⟩ ⟨hi0, hi1, hI⟩
    dsimp only at hi0 hi1 hI ⊢
    have hx := hu0.2 i.toNat
    have hpw := pow_box hx.1 hx.2
    have htn := tk_next htk.1 htk.2 hx.1 hx.2
    have hdv := div_box htk ((u.getD 0 []).getD i.toNat 0).toNat
    have hp1 := plugI_le (u.drop 1) (tk.toNat ||| (1 * 2 ^ ((u.getD 0 []).getD i.toNat 0).toNat : Int).toNat)
    refine W_seq (fun K11 hK11 => ?_)
    refine W_region hT hG [] [0, 1, 6, 7, 19, 20, 21, 22] ?_
    rw [hnt]
    simp only [baseS, eq_self, implies_true, if_true, if_false, reduceIte, Nat.reduceBEq, Nat.reduceEqDiff, Nat.reduceLT, Nat.reduceAdd, reduceCtorEq, tyInt, tdInt, tyRows, tdRows, tyInts, tdInts, cR_impl_plugIn, decide_false, room, Nat.reduceLeDiff, Nat.zero_le, storeAV, rowQ, ownInts, FT.of, FT.setf, elems, appAV_I, appI, srcI, ownI, anyI, sameR, appAV_P, appP, srcP, ownP, anyP, Int.toNat_one, Int.toNat_natCast]
    repeat (refine And.intro ?_ ?_; focus (first | exact ordP (by kernel_rfl) | with_reducible exact rfl | assumption | trivial | (simp only [inR]; omega) | omega | exact ⟨by omega, by omega⟩ | exact ⟨by omega, by omega, by omega⟩ | exact ⟨by omega, ⟨by omega, by omega⟩, by omega, hud⟩ | exact ⟨by omega, htn.2, by omega, hud⟩ | ((try simp only [decide_eq_true_eq, Bool.and_eq_true, ne_eq, decide_not, Bool.not_eq_true', Bool.not_eq_false', Bool.or_eq_false_iff, Bool.not_not, decide_eq_false_iff_not]); (try intro hh); (repeat' apply And.intro) <;> (first | omega | (simp only [inR]; omega) | assumption | exact ⟨by omega, ⟨by omega, by omega⟩, by omega, hud⟩ | exact ⟨by omega, htn.2, by omega, hud⟩ | exact hh.1 | exact hh.2 | exact hh.2.1 | exact hh.2.2 | exact hh.1.1 | exact hh.1.2 | (intro hq; exact ⟨hh, hq⟩) | (intro hq; exact ⟨hh.1, hq⟩) | (simp_all; done)))))
    refine hK11 _ ?_
    clear hK11
    refine W_seq (fun K12 hK12 => ?_)
    refine W_cond (b := _) rfl (fun hc13 => ?_) (fun hc13 => ?_)
    · try simp only [decide_eq_true_eq, decide_eq_false_iff_not, ne_eq, Decidable.not_not, Bool.not_eq_true', Bool.not_eq_false', Bool.or_eq_true, Bool.and_eq_true, Bool.or_eq_false_iff, Bool.and_eq_false_iff] at hc13
      refine W_skip ?_
      simp only [thenQ, blockQ, loopQ, reduceIte, Nat.reduceEqDiff]
      refine hK12 _ ?_
      clear hK12
      refine W_seq (fun K14 hK14 => ?_)
      refine W_block ?_
      refine W_seq (fun K15 hK15 => ?_)
      refine W_region hT hG [] [0, 1, 6, 7, 9, 19, 20, 21] ?_
      rw [hnt]
      simp only [baseS, eq_self, implies_true, if_true, if_false, reduceIte, Nat.reduceBEq, Nat.reduceEqDiff, Nat.reduceLT, Nat.reduceAdd, reduceCtorEq, tyInt, tdInt, tyRows, tdRows, tyInts, tdInts, cR_impl_plugIn, decide_false, room, Nat.reduceLeDiff, Nat.zero_le, storeAV, rowQ, ownInts, FT.of, FT.setf, elems, appAV_I, appI, srcI, ownI, anyI, sameR, appAV_P, appP, srcP, ownP, anyP, Int.toNat_one, Int.toNat_natCast]
      repeat (refine And.intro ?_ ?_; focus (first | exact ordP (by kernel_rfl) | with_reducible exact rfl | assumption | trivial | (simp only [inR]; omega) | omega | exact ⟨by omega, by omega⟩ | exact ⟨by omega, by omega, by omega⟩ | exact ⟨by omega, ⟨by omega, by omega⟩, by omega, hud⟩ | exact ⟨by omega, htn.2, by omega, hud⟩ | ((try simp only [decide_eq_true_eq, Bool.and_eq_true, ne_eq, decide_not, Bool.not_eq_true', Bool.not_eq_false', Bool.or_eq_false_iff, Bool.not_not, decide_eq_false_iff_not]); (try intro hh); (repeat' apply And.intro) <;> (first | omega | (simp only [inR]; omega) | assumption | exact ⟨by omega, ⟨by omega, by omega⟩, by omega, hud⟩ | exact ⟨by omega, htn.2, by omega, hud⟩ | exact hh.1 | exact hh.2 | exact hh.2.1 | exact hh.2.2 | exact hh.1.1 | exact hh.1.2 | (intro hq; exact ⟨hh, hq⟩) | (intro hq; exact ⟨hh.1, hq⟩) | (simp_all; done)))))
      refine hK15 _ ?_
      clear hK15
      refine W_seq (fun K16 hK16 => ?_)
      refine W_seq (fun K17 hK17 => ?_)
      refine W_region hT hG [] [0, 1, 6, 7, 9, 19, 20, 21, 29] ?_
      rw [hnt]
      simp only [baseS, eq_self, implies_true, if_true, if_false, reduceIte, Nat.reduceBEq, Nat.reduceEqDiff, Nat.reduceLT, Nat.reduceAdd, reduceCtorEq, tyInt, tdInt, tyRows, tdRows, tyInts, tdInts, cR_impl_plugIn, decide_false, room, Nat.reduceLeDiff, Nat.zero_le, storeAV, rowQ, ownInts, FT.of, FT.setf, elems, appAV_I, appI, srcI, ownI, anyI, sameR, appAV_P, appP, srcP, ownP, anyP, Int.toNat_one, Int.toNat_natCast]
      repeat (refine And.intro ?_ ?_; focus (first | exact ordP (by kernel_rfl) | with_reducible exact rfl | assumption | trivial | (simp only [inR]; omega) | omega | exact ⟨by omega, by omega⟩ | exact ⟨by omega, by omega, by omega⟩ | exact ⟨by omega, ⟨by omega, by omega⟩, by omega, hud⟩ | exact ⟨by omega, htn.2, by omega, hud⟩ | ((try simp only [decide_eq_true_eq, Bool.and_eq_true, ne_eq, decide_not, Bool.not_eq_true', Bool.not_eq_false', Bool.or_eq_false_iff, Bool.not_not, decide_eq_false_iff_not]); (try intro hh); (repeat' apply And.intro) <;> (first | omega | (simp only [inR]; omega) | assumption | exact ⟨by omega, ⟨by omega, by omega⟩, by omega, hud⟩ | exact ⟨by omega, htn.2, by omega, hud⟩ | exact hh.1 | exact hh.2 | exact hh.2.1 | exact hh.2.2 | exact hh.1.1 | exact hh.1.2 | (intro hq; exact ⟨hh, hq⟩) | (intro hq; exact ⟨hh.1, hq⟩) | (simp_all; done)))))
      refine hK17 _ ?_
      clear hK17
      refine W_cond (b := _) rfl (fun hc18 => ?_) (fun hc18 => ?_)
      · try simp only [decide_eq_true_eq, decide_eq_false_iff_not, ne_eq, Decidable.not_not, Bool.not_eq_true', Bool.not_eq_false', Bool.or_eq_true, Bool.and_eq_true, Bool.or_eq_false_iff, Bool.and_eq_false_iff] at hc18
        refine W_exit ?_
        simp only [thenQ, blockQ, loopQ, reduceIte, Nat.reduceEqDiff]
        refine hK14 _ ?_
        clear hK14
        refine W_region hT hG [] [0, 1, 6, 7, 19, 20, 21] ?_
        rw [hnt]
        simp only [baseS, eq_self, implies_true, if_true, if_false, reduceIte, Nat.reduceBEq, Nat.reduceEqDiff, Nat.reduceLT, Nat.reduceAdd, reduceCtorEq, tyInt, tdInt, tyRows, tdRows, tyInts, tdInts, cR_impl_plugIn, decide_false, room, Nat.reduceLeDiff, Nat.zero_le, storeAV, rowQ, ownInts, FT.of, FT.setf, elems, appAV_I, appI, srcI, ownI, anyI, sameR, appAV_P, appP, srcP, ownP, anyP, Int.toNat_one, Int.toNat_natCast]
        repeat (refine And.intro ?_ ?_; focus (first | exact ordP (by kernel_rfl) | with_reducible exact rfl | assumption | trivial | (simp only [inR]; omega) | omega | exact ⟨by omega, by omega⟩ | exact ⟨by omega, by omega, by omega⟩ | exact ⟨by omega, ⟨by omega, by omega⟩, by omega, hud⟩ | exact ⟨by omega, htn.2, by omega, hud⟩ | ((try simp only [decide_eq_true_eq, Bool.and_eq_true, ne_eq, decide_not, Bool.not_eq_true', Bool.not_eq_false', Bool.or_eq_false_iff, Bool.not_not, decide_eq_false_iff_not]); (try intro hh); (repeat' apply And.intro) <;> (first | omega | (simp only [inR]; omega) | assumption | exact ⟨by omega, ⟨by omega, by omega⟩, by omega, hud⟩ | exact ⟨by omega, htn.2, by omega, hud⟩ | exact hh.1 | exact hh.2 | exact hh.2.1 | exact hh.2.2 | exact hh.1.1 | exact hh.1.2 | (intro hq; exact ⟨hh, hq⟩) | (intro hq; exact ⟨hh.1, hq⟩) | (simp_all; done)))))
        first
        | (refine ⟨(i + 1, best, most), (by (try simp only [hnt, hnp]); rfl), ⟨by dsimp only; omega, by dsimp only; omega, ?_⟩, by dsimp only; omega⟩; dsimp only; rw [accI_step hi0 hc13, stepI, if_pos ((bit_iff htk.1).1 hc18), ← hI]; done)
        | (refine ⟨(i + 1, _, _), (by (try simp only [hnt, hnp]); rfl), ⟨by dsimp only; omega, by dsimp only; omega, ?_⟩, by dsimp only; omega⟩; dsimp only; rw [accI_step hi0 hc4, stepI, if_neg (fun h => hc13 ((bit_iff htk.1).2 h)), ← hI]; have hz := hc18; rw [htn.1] at hz; (try rw [htn.1]); dsimp only; first | (rw [if_pos hz]; done) | (rw [if_neg hz]; done))
      · try simp only [decide_eq_true_eq, decide_eq_false_iff_not, ne_eq, Decidable.not_not, Bool.not_eq_true', Bool.not_eq_false', Bool.or_eq_true, Bool.and_eq_true, Bool.or_eq_false_iff, Bool.and_eq_false_iff] at hc18
        refine W_skip ?_
        simp only [thenQ, blockQ, loopQ, reduceIte, Nat.reduceEqDiff]
        refine hK16 _ ?_
        clear hK16
        refine W_seq (fun K19 hK19 => ?_)
        refine W_region_draw hT hG (by rw [hP]; exact draws_ok) [] [0, 1, 6, 7, 9, 10, 11, 19, 20, 21] ?_
        rw [hnt]
        simp only [baseS, eq_self, implies_true, if_true, if_false, reduceIte, Nat.reduceBEq, Nat.reduceEqDiff, Nat.reduceLT, Nat.reduceAdd, reduceCtorEq, tyInt, tdInt, tyRows, tdRows, tyInts, tdInts, cR_impl_plugIn, decide_false, room, Nat.reduceLeDiff, Nat.zero_le, storeAV, rowQ, ownInts, FT.of, FT.setf, elems, appAV_I, appI, srcI, ownI, anyI, sameR, appAV_P, appP, srcP, ownP, anyP, Int.toNat_one, Int.toNat_natCast]
        repeat (refine And.intro ?_ ?_; focus (first | exact ordP (by kernel_rfl) | with_reducible exact rfl | assumption | trivial | (simp only [inR]; omega) | omega | exact ⟨by omega, by omega⟩ | exact ⟨by omega, by omega, by omega⟩ | exact ⟨by omega, ⟨by omega, by omega⟩, by omega, hud⟩ | exact ⟨by omega, htn.2, by omega, hud⟩ | ((try simp only [decide_eq_true_eq, Bool.and_eq_true, ne_eq, decide_not, Bool.not_eq_true', Bool.not_eq_false', Bool.or_eq_false_iff, Bool.not_not, decide_eq_false_iff_not]); (try intro hh); (repeat' apply And.intro) <;> (first | omega | (simp only [inR]; omega) | assumption | exact ⟨by omega, ⟨by omega, by omega⟩, by omega, hud⟩ | exact ⟨by omega, htn.2, by omega, hud⟩ | exact hh.1 | exact hh.2 | exact hh.2.1 | exact hh.2.2 | exact hh.1.1 | exact hh.1.2 | (intro hq; exact ⟨hh, hq⟩) | (intro hq; exact ⟨hh.1, hq⟩) | (simp_all; done)))))
        refine hK19 _ ?_
        clear hK19
        refine W_seq (fun K20 hK20 => ?_)
        refine W_region hT hG [] [0, 1, 6, 7, 9, 10, 11, 19, 20, 21, 43] ?_
        rw [hnt]
        simp only [baseS, eq_self, implies_true, if_true, if_false, reduceIte, Nat.reduceBEq, Nat.reduceEqDiff, Nat.reduceLT, Nat.reduceAdd, reduceCtorEq, tyInt, tdInt, tyRows, tdRows, tyInts, tdInts, cR_impl_plugIn, decide_false, room, Nat.reduceLeDiff, Nat.zero_le, storeAV, rowQ, ownInts, FT.of, FT.setf, elems, appAV_I, appI, srcI, ownI, anyI, sameR, appAV_P, appP, srcP, ownP, anyP, Int.toNat_one, Int.toNat_natCast]
        repeat (refine And.intro ?_ ?_; focus (first | exact ordP (by kernel_rfl) | with_reducible exact rfl | assumption | trivial | (simp only [inR]; omega) | omega | exact ⟨by omega, by omega⟩ | exact ⟨by omega, by omega, by omega⟩ | exact ⟨by omega, ⟨by omega, by omega⟩, by omega, hud⟩ | exact ⟨by omega, htn.2, by omega, hud⟩ | ((try simp only [decide_eq_true_eq, Bool.and_eq_true, ne_eq, decide_not, Bool.not_eq_true', Bool.not_eq_false', Bool.or_eq_false_iff, Bool.not_not, decide_eq_false_iff_not]); (try intro hh); (repeat' apply And.intro) <;> (first | omega | (simp only [inR]; omega) | assumption | exact ⟨by omega, ⟨by omega, by omega⟩, by omega, hud⟩ | exact ⟨by omega, htn.2, by omega, hud⟩ | exact hh.1 | exact hh.2 | exact hh.2.1 | exact hh.2.2 | exact hh.1.1 | exact hh.1.2 | (intro hq; exact ⟨hh, hq⟩) | (intro hq; exact ⟨hh.1, hq⟩) | (simp_all; done)))))
        refine hK20 _ ?_
        clear hK20
        refine W_cond (b := _) rfl (fun hc21 => ?_) (fun hc21 => ?_)
        · try simp only [decide_eq_true_eq, decide_eq_false_iff_not, ne_eq, Decidable.not_not, Bool.not_eq_true', Bool.not_eq_false', Bool.or_eq_true, Bool.and_eq_true, Bool.or_eq_false_iff, Bool.and_eq_false_iff] at hc21
          refine W_region hT hG [] [0, 1, 6, 7, 19, 20, 21] ?_
          rw [hnt]
          simp only [baseS, eq_self, implies_true, if_true, if_false, reduceIte, Nat.reduceBEq, Nat.reduceEqDiff, Nat.reduceLT, Nat.reduceAdd, reduceCtorEq, tyInt, tdInt, tyRows, tdRows, tyInts, tdInts, cR_impl_plugIn, decide_false, room, Nat.reduceLeDiff, Nat.zero_le, storeAV, rowQ, ownInts, FT.of, FT.setf, elems, appAV_I, appI, srcI, ownI, anyI, sameR, appAV_P, appP, srcP, ownP, anyP, Int.toNat_one, Int.toNat_natCast]
          repeat (refine And.intro ?_ ?_; focus (first | exact ordP (by kernel_rfl) | with_reducible exact rfl | assumption | trivial | (simp only [inR]; omega) | omega | exact ⟨by omega, by omega⟩ | exact ⟨by omega, by omega, by omega⟩ | exact ⟨by omega, ⟨by omega, by omega⟩, by omega, hud⟩ | exact ⟨by omega, htn.2, by omega, hud⟩ | ((try simp only [decide_eq_true_eq, Bool.and_eq_true, ne_eq, decide_not, Bool.not_eq_true', Bool.not_eq_false', Bool.or_eq_false_iff, Bool.not_not, decide_eq_false_iff_not]); (try intro hh); (repeat' apply And.intro) <;> (first | omega | (simp only [inR]; omega) | assumption | exact ⟨by omega, ⟨by omega, by omega⟩, by omega, hud⟩ | exact ⟨by omega, htn.2, by omega, hud⟩ | exact hh.1 | exact hh.2 | exact hh.2.1 | exact hh.2.2 | exact hh.1.1 | exact hh.1.2 | (intro hq; exact ⟨hh, hq⟩) | (intro hq; exact ⟨hh.1, hq⟩) | (simp_all; done)))))
          refine hK14 _ ?_
          clear hK14
          refine W_region hT hG [] [0, 1, 6, 7, 19, 20, 21] ?_
          rw [hnt]
          simp only [baseS, eq_self, implies_true, if_true, if_false, reduceIte, Nat.reduceBEq, Nat.reduceEqDiff, Nat.reduceLT, Nat.reduceAdd, reduceCtorEq, tyInt, tdInt, tyRows, tdRows, tyInts, tdInts, cR_impl_plugIn, decide_false, room, Nat.reduceLeDiff, Nat.zero_le, storeAV, rowQ, ownInts, FT.of, FT.setf, elems, appAV_I, appI, srcI, ownI, anyI, sameR, appAV_P, appP, srcP, ownP, anyP, Int.toNat_one, Int.toNat_natCast]
          repeat (refine And.intro ?_ ?_; focus (first | exact ordP (by kernel_rfl) | with_reducible exact rfl | assumption | trivial | (simp only [inR]; omega) | omega | exact ⟨by omega, by omega⟩ | exact ⟨by omega, by omega, by omega⟩ | exact ⟨by omega, ⟨by omega, by omega⟩, by omega, hud⟩ | exact ⟨by omega, htn.2, by omega, hud⟩ | ((try simp only [decide_eq_true_eq, Bool.and_eq_true, ne_eq, decide_not, Bool.not_eq_true', Bool.not_eq_false', Bool.or_eq_false_iff, Bool.not_not, decide_eq_false_iff_not]); (try intro hh); (repeat' apply And.intro) <;> (first | omega | (simp only [inR]; omega) | assumption | exact ⟨by omega, ⟨by omega, by omega⟩, by omega, hud⟩ | exact ⟨by omega, htn.2, by omega, hud⟩ | exact hh.1 | exact hh.2 | exact hh.2.1 | exact hh.2.2 | exact hh.1.1 | exact hh.1.2 | (intro hq; exact ⟨hh, hq⟩) | (intro hq; exact ⟨hh.1, hq⟩) | (simp_all; done)))))
          first
          | (refine ⟨(i + 1, best, most), (by (try simp only [hnt, hnp]); rfl), ⟨by dsimp only; omega, by dsimp only; omega, ?_⟩, by dsimp only; omega⟩; dsimp only; rw [accI_step hi0 hc18, stepI, if_pos ((bit_iff htk.1).1 hc21), ← hI]; done)
          | (refine ⟨(i + 1, _, _), (by (try simp only [hnt, hnp]); rfl), ⟨by dsimp only; omega, by dsimp only; omega, ?_⟩, by dsimp only; omega⟩; dsimp only; rw [accI_step hi0 hc13, stepI, if_neg (fun h => hc18 ((bit_iff htk.1).2 h)), ← hI]; have hz := hc21; rw [htn.1] at hz; (try rw [htn.1]); dsimp only; first | (rw [if_pos hz]; done) | (rw [if_neg hz]; done))
        · try simp only [decide_eq_true_eq, decide_eq_false_iff_not, ne_eq, Decidable.not_not, Bool.not_eq_true', Bool.not_eq_false', Bool.or_eq_true, Bool.and_eq_true, Bool.or_eq_false_iff, Bool.and_eq_false_iff] at hc21
          refine W_skip ?_
          simp only [thenQ, blockQ, loopQ, reduceIte, Nat.reduceEqDiff]
          refine hK14 _ ?_
          clear hK14
          refine W_region hT hG [] [0, 1, 6, 7, 19, 20, 21] ?_
          rw [hnt]
          simp only [baseS, eq_self, implies_true, if_true, if_false, reduceIte, Nat.reduceBEq, Nat.reduceEqDiff, Nat.reduceLT, Nat.reduceAdd, reduceCtorEq, tyInt, tdInt, tyRows, tdRows, tyInts, tdInts, cR_impl_plugIn, decide_false, room, Nat.reduceLeDiff, Nat.zero_le, storeAV, rowQ, ownInts, FT.of, FT.setf, elems, appAV_I, appI, srcI, ownI, anyI, sameR, appAV_P, appP, srcP, ownP, anyP, Int.toNat_one, Int.toNat_natCast]
          repeat (refine And.intro ?_ ?_; focus (first | exact ordP (by kernel_rfl) | with_reducible exact rfl | assumption | trivial | (simp only [inR]; omega) | omega | exact ⟨by omega, by omega⟩ | exact ⟨by omega, by omega, by omega⟩ | exact ⟨by omega, ⟨by omega, by omega⟩, by omega, hud⟩ | exact ⟨by omega, htn.2, by omega, hud⟩ | ((try simp only [decide_eq_true_eq, Bool.and_eq_true, ne_eq, decide_not, Bool.not_eq_true', Bool.not_eq_false', Bool.or_eq_false_iff, Bool.not_not, decide_eq_false_iff_not]); (try intro hh); (repeat' apply And.intro) <;> (first | omega | (simp only [inR]; omega) | assumption | exact ⟨by omega, ⟨by omega, by omega⟩, by omega, hud⟩ | exact ⟨by omega, htn.2, by omega, hud⟩ | exact hh.1 | exact hh.2 | exact hh.2.1 | exact hh.2.2 | exact hh.1.1 | exact hh.1.2 | (intro hq; exact ⟨hh, hq⟩) | (intro hq; exact ⟨hh.1, hq⟩) | (simp_all; done)))))
          first
          | (refine ⟨(i + 1, best, most), (by (try simp only [hnt, hnp]); rfl), ⟨by dsimp only; omega, by dsimp only; omega, ?_⟩, by dsimp only; omega⟩; dsimp only; rw [accI_step hi0 hc18, stepI, if_pos ((bit_iff htk.1).1 hc21), ← hI]; done)
          | (refine ⟨(i + 1, _, _), (by (try simp only [hnt, hnp]); rfl), ⟨by dsimp only; omega, by dsimp only; omega, ?_⟩, by dsimp only; omega⟩; dsimp only; rw [accI_step hi0 hc13, stepI, if_neg (fun h => hc18 ((bit_iff htk.1).2 h)), ← hI]; have hz := hc21; rw [htn.1] at hz; (try rw [htn.1]); dsimp only; first | (rw [if_pos hz]; done) | (rw [if_neg hz]; done))
    · try simp only [decide_eq_true_eq, decide_eq_false_iff_not, ne_eq, Decidable.not_not, Bool.not_eq_true', Bool.not_eq_false', Bool.or_eq_true, Bool.and_eq_true, Bool.or_eq_false_iff, Bool.and_eq_false_iff] at hc13
      refine W_exit ?_
      simp only [thenQ, blockQ, loopQ, reduceIte, Nat.reduceEqDiff]
      refine hK8 _ ?_
      clear hK8
      refine W_seq (fun K22 hK22 => ?_)
      refine W_seq (fun K23 hK23 => ?_)
      refine W_region hT hG [] [6, 7, 12, 13] ?_
      rw [hnt]
      simp only [baseS, eq_self, implies_true, if_true, if_false, reduceIte, Nat.reduceBEq, Nat.reduceEqDiff, Nat.reduceLT, Nat.reduceAdd, reduceCtorEq, tyInt, tdInt, tyRows, tdRows, tyInts, tdInts, cR_impl_plugIn, decide_false, room, Nat.reduceLeDiff, Nat.zero_le, storeAV, rowQ, ownInts, FT.of, FT.setf, elems, appAV_I, appI, srcI, ownI, anyI, sameR, appAV_P, appP, srcP, ownP, anyP, Int.toNat_one, Int.toNat_natCast]
      repeat (refine And.intro ?_ ?_; focus (first | exact ordP (by kernel_rfl) | with_reducible exact rfl | assumption | trivial | (simp only [inR]; omega) | omega | exact ⟨by omega, by omega⟩ | exact ⟨by omega, by omega, by omega⟩ | exact ⟨by omega, ⟨by omega, by omega⟩, by omega, hud⟩ | exact ⟨by omega, htn.2, by omega, hud⟩ | ((try simp only [decide_eq_true_eq, Bool.and_eq_true, ne_eq, decide_not, Bool.not_eq_true', Bool.not_eq_false', Bool.or_eq_false_iff, Bool.not_not, decide_eq_false_iff_not]); (try intro hh); (repeat' apply And.intro) <;> (first | omega | (simp only [inR]; omega) | assumption | exact ⟨by omega, ⟨by omega, by omega⟩, by omega, hud⟩ | exact ⟨by omega, htn.2, by omega, hud⟩ | exact hh.1 | exact hh.2 | exact hh.2.1 | exact hh.2.2 | exact hh.1.1 | exact hh.1.2 | (intro hq; exact ⟨hh, hq⟩) | (intro hq; exact ⟨hh.1, hq⟩) | (simp_all; done)))))
      refine hK23 _ ?_
      clear hK23
      refine W_seq (fun K24 hK24 => ?_)
      refine W_region hT hG [] [6, 7, 12, 13, 60] ?_
      rw [hnt]
      simp only [baseS, eq_self, implies_true, if_true, if_false, reduceIte, Nat.reduceBEq, Nat.reduceEqDiff, Nat.reduceLT, Nat.reduceAdd, reduceCtorEq, tyInt, tdInt, tyRows, tdRows, tyInts, tdInts, cR_impl_plugIn, decide_false, room, Nat.reduceLeDiff, Nat.zero_le, storeAV, rowQ, ownInts, FT.of, FT.setf, elems, appAV_I, appI, srcI, ownI, anyI, sameR, appAV_P, appP, srcP, ownP, anyP, Int.toNat_one, Int.toNat_natCast]
      repeat (refine And.intro ?_ ?_; focus (first | exact ordP (by kernel_rfl) | with_reducible exact rfl | assumption | trivial | (simp only [inR]; omega) | omega | exact ⟨by omega, by omega⟩ | exact ⟨by omega, by omega, by omega⟩ | exact ⟨by omega, ⟨by omega, by omega⟩, by omega, hud⟩ | exact ⟨by omega, htn.2, by omega, hud⟩ | ((try simp only [decide_eq_true_eq, Bool.and_eq_true, ne_eq, decide_not, Bool.not_eq_true', Bool.not_eq_false', Bool.or_eq_false_iff, Bool.not_not, decide_eq_false_iff_not]); (try intro hh); (repeat' apply And.intro) <;> (first | omega | (simp only [inR]; omega) | assumption | exact ⟨by omega, ⟨by omega, by omega⟩, by omega, hud⟩ | exact ⟨by omega, htn.2, by omega, hud⟩ | exact hh.1 | exact hh.2 | exact hh.2.1 | exact hh.2.2 | exact hh.1.1 | exact hh.1.2 | (intro hq; exact ⟨hh, hq⟩) | (intro hq; exact ⟨hh.1, hq⟩) | (simp_all; done)))))
      refine hK24 _ ?_
      clear hK24
      refine W_cond (b := _) rfl (fun hc25 => ?_) (fun hc25 => ?_)
      · try simp only [decide_eq_true_eq, decide_eq_false_iff_not, ne_eq, Decidable.not_not, Bool.not_eq_true', Bool.not_eq_false', Bool.or_eq_true, Bool.and_eq_true, Bool.or_eq_false_iff, Bool.and_eq_false_iff] at hc25
        refine W_region hT hG [] [6, 7] ?_
        rw [hnt]
        simp only [baseS, eq_self, implies_true, if_true, if_false, reduceIte, Nat.reduceBEq, Nat.reduceEqDiff, Nat.reduceLT, Nat.reduceAdd, reduceCtorEq, tyInt, tdInt, tyRows, tdRows, tyInts, tdInts, cR_impl_plugIn, decide_false, room, Nat.reduceLeDiff, Nat.zero_le, storeAV, rowQ, ownInts, FT.of, FT.setf, elems, appAV_I, appI, srcI, ownI, anyI, sameR, appAV_P, appP, srcP, ownP, anyP, Int.toNat_one, Int.toNat_natCast]
        repeat (refine And.intro ?_ ?_; focus (first | exact ordP (by kernel_rfl) | with_reducible exact rfl | assumption | trivial | (simp only [inR]; omega) | omega | exact ⟨by omega, by omega⟩ | exact ⟨by omega, by omega, by omega⟩ | exact ⟨by omega, ⟨by omega, by omega⟩, by omega, hud⟩ | exact ⟨by omega, htn.2, by omega, hud⟩ | ((try simp only [decide_eq_true_eq, Bool.and_eq_true, ne_eq, decide_not, Bool.not_eq_true', Bool.not_eq_false', Bool.or_eq_false_iff, Bool.not_not, decide_eq_false_iff_not]); (try intro hh); (repeat' apply And.intro) <;> (first | omega | (simp only [inR]; omega) | assumption | exact ⟨by omega, ⟨by omega, by omega⟩, by omega, hud⟩ | exact ⟨by omega, htn.2, by omega, hud⟩ | exact hh.1 | exact hh.2 | exact hh.2.1 | exact hh.2.2 | exact hh.1.1 | exact hh.1.2 | (intro hq; exact ⟨hh, hq⟩) | (intro hq; exact ⟨hh.1, hq⟩) | (simp_all; done)))))
        refine hK22 _ ?_
        clear hK22
        refine W_seq (fun K26 hK26 => ?_)
        refine W_region hT hG [] [4, 5] ?_
        rw [hnt]
        simp only [baseS, eq_self, implies_true, if_true, if_false, reduceIte, Nat.reduceBEq, Nat.reduceEqDiff, Nat.reduceLT, Nat.reduceAdd, reduceCtorEq, tyInt, tdInt, tyRows, tdRows, tyInts, tdInts, cR_impl_plugIn, decide_false, room, Nat.reduceLeDiff, Nat.zero_le, storeAV, rowQ, ownInts, FT.of, FT.setf, elems, appAV_I, appI, srcI, ownI, anyI, sameR, appAV_P, appP, srcP, ownP, anyP, Int.toNat_one, Int.toNat_natCast]
        repeat (refine And.intro ?_ ?_; focus (first | exact ordP (by kernel_rfl) | with_reducible exact rfl | assumption | trivial | (simp only [inR]; omega) | omega | exact ⟨by omega, by omega⟩ | exact ⟨by omega, by omega, by omega⟩ | exact ⟨by omega, ⟨by omega, by omega⟩, by omega, hud⟩ | exact ⟨by omega, htn.2, by omega, hud⟩ | ((try simp only [decide_eq_true_eq, Bool.and_eq_true, ne_eq, decide_not, Bool.not_eq_true', Bool.not_eq_false', Bool.or_eq_false_iff, Bool.not_not, decide_eq_false_iff_not]); (try intro hh); (repeat' apply And.intro) <;> (first | omega | (simp only [inR]; omega) | assumption | exact ⟨by omega, ⟨by omega, by omega⟩, by omega, hud⟩ | exact ⟨by omega, htn.2, by omega, hud⟩ | exact hh.1 | exact hh.2 | exact hh.2.1 | exact hh.2.2 | exact hh.1.1 | exact hh.1.2 | (intro hq; exact ⟨hh, hq⟩) | (intro hq; exact ⟨hh.1, hq⟩) | (simp_all; done)))))
        refine hK26 _ ?_
        clear hK26
        refine W_re [(4, .own 3 .i64), (5, .as)] (by (try simp only [hnt, hnp]); rfl) ?_
        refine W_ret ?_
        simp only [thenQ, blockQ, loopQ, retQ, reduceIte, Nat.reduceEqDiff]
        refine ret1si 4 rfl rfl rfl ?_ ?_
        all_goals (
          first
          | (have e := List.eq_nil_of_length_eq_zero (by omega : u.length = 0); subst e; rfl)
          | (have e := plugI_ne (u := u) (by omega) tk.toNat; rw [← accI_end (tk := tk.toNat) hc13, ← hI] at e; dsimp only at e; rw [e]; first | (rw [if_pos hc25]; done) | (rw [if_neg hc25]; done)))
      · try simp only [decide_eq_true_eq, decide_eq_false_iff_not, ne_eq, Decidable.not_not, Bool.not_eq_true', Bool.not_eq_false', Bool.or_eq_true, Bool.and_eq_true, Bool.or_eq_false_iff, Bool.and_eq_false_iff] at hc25
        refine W_skip ?_
        simp only [thenQ, blockQ, loopQ, reduceIte, Nat.reduceEqDiff]
        refine hK22 _ ?_
        clear hK22
        refine W_seq (fun K27 hK27 => ?_)
        refine W_region hT hG [] [4, 5] ?_
        rw [hnt]
        simp only [baseS, eq_self, implies_true, if_true, if_false, reduceIte, Nat.reduceBEq, Nat.reduceEqDiff, Nat.reduceLT, Nat.reduceAdd, reduceCtorEq, tyInt, tdInt, tyRows, tdRows, tyInts, tdInts, cR_impl_plugIn, decide_false, room, Nat.reduceLeDiff, Nat.zero_le, storeAV, rowQ, ownInts, FT.of, FT.setf, elems, appAV_I, appI, srcI, ownI, anyI, sameR, appAV_P, appP, srcP, ownP, anyP, Int.toNat_one, Int.toNat_natCast]
        repeat (refine And.intro ?_ ?_; focus (first | exact ordP (by kernel_rfl) | with_reducible exact rfl | assumption | trivial | (simp only [inR]; omega) | omega | exact ⟨by omega, by omega⟩ | exact ⟨by omega, by omega, by omega⟩ | exact ⟨by omega, ⟨by omega, by omega⟩, by omega, hud⟩ | exact ⟨by omega, htn.2, by omega, hud⟩ | ((try simp only [decide_eq_true_eq, Bool.and_eq_true, ne_eq, decide_not, Bool.not_eq_true', Bool.not_eq_false', Bool.or_eq_false_iff, Bool.not_not, decide_eq_false_iff_not]); (try intro hh); (repeat' apply And.intro) <;> (first | omega | (simp only [inR]; omega) | assumption | exact ⟨by omega, ⟨by omega, by omega⟩, by omega, hud⟩ | exact ⟨by omega, htn.2, by omega, hud⟩ | exact hh.1 | exact hh.2 | exact hh.2.1 | exact hh.2.2 | exact hh.1.1 | exact hh.1.2 | (intro hq; exact ⟨hh, hq⟩) | (intro hq; exact ⟨hh.1, hq⟩) | (simp_all; done)))))
        refine hK27 _ ?_
        clear hK27
        refine W_re [(4, .own 3 .i64), (5, .as)] (by (try simp only [hnt, hnp]); rfl) ?_
        refine W_ret ?_
        simp only [thenQ, blockQ, loopQ, retQ, reduceIte, Nat.reduceEqDiff]
        refine ret1si 4 rfl rfl rfl ?_ ?_
        all_goals (
          first
          | (have e := List.eq_nil_of_length_eq_zero (by omega : u.length = 0); subst e; rfl)
          | (have e := plugI_ne (u := u) (by omega) tk.toNat; rw [← accI_end (tk := tk.toNat) hc13, ← hI] at e; dsimp only at e; rw [e]; first | (rw [if_pos hc25]; done) | (rw [if_neg hc25]; done)))

theorem mR_impl_plugIn : ∀ n, Meets Try.prog 21 (cR_impl_plugIn n)
  | 0 => m0_impl_plugIn
  | n + 1 => mS_impl_plugIn n (mR_impl_plugIn n)
theorem m_impl_plugIn : Meets Try.prog 21 c_impl_plugIn := mR_impl_plugIn 8

theorem plugS_ne {u : List (List Int)} {k : Nat} (h : k < u.length) (pl : List Int) : plugS (u.drop k) pl = if ((u.getD k []).foldl (stepS (plugS (u.drop (k + 1))) pl) []).length = 0 ∨ manyP ((u.getD k []).foldl (stepS (plugS (u.drop (k + 1))) pl) []) < manyP (plugS (u.drop (k + 1)) (pl ++ [-1])) then plugS (u.drop (k + 1)) (pl ++ [-1]) else (u.getD k []).foldl (stepS (plugS (u.drop (k + 1))) pl) [] := by
  have e : u.getD k [] = u[k] := by rw [List.getD_eq_getElem?_getD, List.getElem?_eq_getElem h]; rfl
  rw [List.drop_eq_getElem_cons h, e]
  rfl
def accS (u : List (List Int)) (k : Nat) (pl : List Int) (i : Nat) : List Int := ((u.getD k []).take i).foldl (stepS (plugS (u.drop (k + 1))) pl) []
theorem accS_step {u : List (List Int)} {k : Nat} {pl : List Int} {i : Int} (h0 : 0 ≤ i) (h : i < (u.getD k []).length) : accS u k pl (i + 1).toNat = stepS (plugS (u.drop (k + 1))) pl (accS u k pl i.toNat) ((u.getD k []).getD i.toNat 0) := by
  have ha : i.toNat < (u.getD k []).length := by omega
  have e : (i + 1).toNat = i.toNat + 1 := by omega
  have e2 : (u.getD k []).getD i.toNat 0 = (u.getD k [])[i.toNat] := by rw [List.getD_eq_getElem?_getD, List.getElem?_eq_getElem ha]; rfl
  rw [accS, e, List.take_add_one, List.getElem?_eq_getElem ha, Option.toList_some, List.foldl_append, accS, e2]
  rfl
theorem accS_end {u : List (List Int)} {k : Nat} {pl : List Int} {i : Int} (h : ¬ i < (u.getD k []).length) : accS u k pl i.toNat = (u.getD k []).foldl (stepS (plugS (u.drop (k + 1))) pl) [] := by
  rw [accS, List.take_of_length_le (by omega)]
theorem plugS_len : ∀ (v : List (List Int)) (pl : List Int), (plugS v pl).length = pl.length + v.length
  | [], pl => by simp [plugS]
  | us :: rest, pl => by
    have key : ∀ (l : List Int) (s : List Int), (s.length = 0 ∨ s.length = pl.length + (rest.length + 1)) → ((l.foldl (stepS (plugS rest) pl) s).length = 0 ∨ (l.foldl (stepS (plugS rest) pl) s).length = pl.length + (rest.length + 1)) := by
      intro l
      induction l with
      | nil => intro s h; exact h
      | cons x l ih =>
        intro s h
        refine ih _ ?_
        unfold stepS
        split
        · exact h
        · split
          · right; rw [plugS_len rest]; simp; omega
          · exact h
    have h1 := key us [] (.inl rfl)
    simp only [plugS, List.length_cons]
    split
    · rw [plugS_len rest]; simp; omega
    · rename_i hn
      rcases h1 with h1 | h1
      · exact absurd (.inl h1) hn
      · exact h1
theorem accS_len (u : List (List Int)) (k : Nat) (pl : List Int) (i : Nat) : (accS u k pl i).length ≤ pl.length + (u.length + 1) := by
  have key : ∀ (l : List Int) (s : List Int), s.length ≤ pl.length + (u.length + 1) → (l.foldl (stepS (plugS (u.drop (k + 1))) pl) s).length ≤ pl.length + (u.length + 1) := by
    intro l
    induction l with
    | nil => intro s h; exact h
    | cons x l ih =>
      intro s h
      refine ih _ ?_
      unfold stepS
      split
      · exact h
      · split
        · rw [plugS_len, List.length_append, List.length_drop, List.length_singleton]; omega
        · exact h
  exact key _ [] (by simp)
theorem plugS_bound {u : List (List Int)} {pl : List Int} {n : Nat} (h : u.length ≤ 6) (hp : pl.length ≤ 7) : (plugS (u.drop n) pl).length ≤ 9223372036854775807 := by
  rw [plugS_len, List.length_drop]; omega

def cR_spec_l12Best (n : Nat) : Ctr where
  modes := [.v .rr, .v (.r .i64)]
  al := true
  run := fun xs os => match xs, os with
    | [.rows u, .rs .i64 pl], [] => some ⟨u.length - pl.length < n ∧ pl.length ≤ u.length ∧ u.length ≤ 6 ∧ usesP u, .rs .i64 (plugS (u.drop pl.length) pl), [], []⟩
    | _, _ => none
def c_spec_l12Best : Ctr := cR_spec_l12Best 8
theorem m0_spec_l12Best : Meets Try.prog 19 (cR_spec_l12Best 0) := by
  refine meets_of (T := tyT) tyOK Try.func19 (by rfl) rfl (Nat.le_of_ble_eq_true rfl) ?_
  intro args owns R hrun hpre
  simp only [cR_spec_l12Best] at hrun
  split at hrun
  case h_2 => cases hrun
  cases hrun
  exact absurd hpre.1 (Nat.not_lt_zero _)
set_option maxRecDepth 20000 in
set_option maxHeartbeats 1000000 in
theorem mS_spec_l12Best (n : Nat) (ih : Meets Try.prog 19 (cR_spec_l12Best n)) : Meets Try.prog 19 (cR_spec_l12Best (n + 1)) := by
  refine meets_of (T := tyT) tyOK Try.func19 (by rfl) rfl (Nat.le_of_ble_eq_true rfl) ?_
  intro args owns R hrun hpre
  simp only [cR_spec_l12Best] at hrun
  split at hrun
  case h_2 => cases hrun
  rename_i u pl
  cases hrun
  try dsimp only at hpre
  refine ⟨_, rfl, fun E hP hnt hnp => ?_⟩
  replace hnt : E.nt = 81 := hnt
  replace hnp : E.np = 2 := hnp
  have hT : ∀ t d, tyT t = some d → TyOK E.P t d := hP ▸ tyOK
  have hG : ∀ f C, Γof [(19, cR_spec_l12Best n), (23, c_spec_l1Has), (28, c_spec_l12Many)] f = some C → Meets E.P f C := hΓof (by rw [hP]; exact ⟨ih, m_spec_l1Has, m_spec_l12Many, trivial⟩)
  try simp only [show Try.f19.ntmps = 81 from rfl]
  have hn := hpre.1
  have hpl := hpre.2.1
  have hul := hpre.2.2.1
  have hu := hpre.2.2.2
  have huk := usesP_get hu pl.length
  have hl1 : ∀ x : Int, (pl ++ [x]).length = pl.length + 1 := fun x => by simp
  have hl2 : ∀ x : Int, ([] ++ pl ++ [x]).length = pl.length + 1 := fun x => by simp
  refine W_seq (fun K1 hK1 => ?_)
  refine W_region hT hG [300049, 300067] [0, 1] ?_
  rw [hnt]
  simp only [baseS, eq_self, implies_true, if_true, if_false, reduceIte, Nat.reduceBEq, Nat.reduceEqDiff, Nat.reduceLT, Nat.reduceAdd, reduceCtorEq, tyInt, tdInt, tyRows, tdRows, tyInts, tdInts, cR_spec_l12Best, c_spec_l1Has, c_spec_l12Many, decide_false, room, Nat.reduceLeDiff, Nat.zero_le, storeAV, rowQ, ownInts, FT.of, FT.setf, elems, appAV_I, appI, srcI, ownI, anyI, sameR, appAV_P, appP, srcP, ownP, anyP, Int.toNat_one, Int.toNat_natCast]
  repeat (refine And.intro ?_ ?_; focus (first | exact ordP (by kernel_rfl) | with_reducible exact rfl | assumption | trivial | (simp only [inR]; omega) | omega | exact ⟨by omega, by omega⟩ | exact ⟨by omega, by omega, by omega⟩ | exact plugS_bound hul (by simp only [List.length_append, List.length_singleton, List.length_nil]; omega) | exact ⟨by rw [hl1]; omega, by rw [hl1]; omega, hul, hu⟩ | ((try simp only [decide_eq_true_eq, Bool.and_eq_true, ne_eq, decide_not, Bool.not_eq_true', Bool.not_eq_false', Bool.or_eq_false_iff, Bool.not_not, decide_eq_false_iff_not]); (try intro hh); (repeat' apply And.intro) <;> (first | omega | (simp only [inR]; omega) | assumption | exact plugS_bound hul (by simp only [List.length_append, List.length_singleton, List.length_nil]; omega) | exact ⟨by rw [hl1]; omega, by rw [hl1]; omega, hul, hu⟩ | exact hh.1 | exact hh.2 | exact hh.2.1 | exact hh.2.2 | exact hh.1.1 | exact hh.1.2 | (intro hq; exact ⟨hh, hq⟩) | (intro hq; exact ⟨hh.1, hq⟩) | (simp_all; done)))))
  refine hK1 _ ?_
  clear hK1
  refine W_seq (fun K2 hK2 => ?_)
  refine W_region hT hG [300049, 300067] [0, 1, 5] ?_
  rw [hnt]
  simp only [baseS, eq_self, implies_true, if_true, if_false, reduceIte, Nat.reduceBEq, Nat.reduceEqDiff, Nat.reduceLT, Nat.reduceAdd, reduceCtorEq, tyInt, tdInt, tyRows, tdRows, tyInts, tdInts, cR_spec_l12Best, c_spec_l1Has, c_spec_l12Many, decide_false, room, Nat.reduceLeDiff, Nat.zero_le, storeAV, rowQ, ownInts, FT.of, FT.setf, elems, appAV_I, appI, srcI, ownI, anyI, sameR, appAV_P, appP, srcP, ownP, anyP, Int.toNat_one, Int.toNat_natCast]
  repeat (refine And.intro ?_ ?_; focus (first | exact ordP (by kernel_rfl) | with_reducible exact rfl | assumption | trivial | (simp only [inR]; omega) | omega | exact ⟨by omega, by omega⟩ | exact ⟨by omega, by omega, by omega⟩ | exact plugS_bound hul (by simp only [List.length_append, List.length_singleton, List.length_nil]; omega) | exact ⟨by rw [hl1]; omega, by rw [hl1]; omega, hul, hu⟩ | ((try simp only [decide_eq_true_eq, Bool.and_eq_true, ne_eq, decide_not, Bool.not_eq_true', Bool.not_eq_false', Bool.or_eq_false_iff, Bool.not_not, decide_eq_false_iff_not]); (try intro hh); (repeat' apply And.intro) <;> (first | omega | (simp only [inR]; omega) | assumption | exact plugS_bound hul (by simp only [List.length_append, List.length_singleton, List.length_nil]; omega) | exact ⟨by rw [hl1]; omega, by rw [hl1]; omega, hul, hu⟩ | exact hh.1 | exact hh.2 | exact hh.2.1 | exact hh.2.2 | exact hh.1.1 | exact hh.1.2 | (intro hq; exact ⟨hh, hq⟩) | (intro hq; exact ⟨hh.1, hq⟩) | (simp_all; done)))))
  refine hK2 _ ?_
  clear hK2
  refine W_seq (fun K3 hK3 => ?_)
  refine W_seq (fun K4 hK4 => ?_)
  refine W_region hT hG [300049, 300067] [0, 1, 5, 15] ?_
  rw [hnt]
  simp only [baseS, eq_self, implies_true, if_true, if_false, reduceIte, Nat.reduceBEq, Nat.reduceEqDiff, Nat.reduceLT, Nat.reduceAdd, reduceCtorEq, tyInt, tdInt, tyRows, tdRows, tyInts, tdInts, cR_spec_l12Best, c_spec_l1Has, c_spec_l12Many, decide_false, room, Nat.reduceLeDiff, Nat.zero_le, storeAV, rowQ, ownInts, FT.of, FT.setf, elems, appAV_I, appI, srcI, ownI, anyI, sameR, appAV_P, appP, srcP, ownP, anyP, Int.toNat_one, Int.toNat_natCast]
  repeat (refine And.intro ?_ ?_; focus (first | exact ordP (by kernel_rfl) | with_reducible exact rfl | assumption | trivial | (simp only [inR]; omega) | omega | exact ⟨by omega, by omega⟩ | exact ⟨by omega, by omega, by omega⟩ | exact plugS_bound hul (by simp only [List.length_append, List.length_singleton, List.length_nil]; omega) | exact ⟨by rw [hl1]; omega, by rw [hl1]; omega, hul, hu⟩ | ((try simp only [decide_eq_true_eq, Bool.and_eq_true, ne_eq, decide_not, Bool.not_eq_true', Bool.not_eq_false', Bool.or_eq_false_iff, Bool.not_not, decide_eq_false_iff_not]); (try intro hh); (repeat' apply And.intro) <;> (first | omega | (simp only [inR]; omega) | assumption | exact plugS_bound hul (by simp only [List.length_append, List.length_singleton, List.length_nil]; omega) | exact ⟨by rw [hl1]; omega, by rw [hl1]; omega, hul, hu⟩ | exact hh.1 | exact hh.2 | exact hh.2.1 | exact hh.2.2 | exact hh.1.1 | exact hh.1.2 | (intro hq; exact ⟨hh, hq⟩) | (intro hq; exact ⟨hh.1, hq⟩) | (simp_all; done)))))
  refine hK4 _ ?_
  clear hK4
  refine W_cond (b := _) rfl (fun hc5 => ?_) (fun hc5 => ?_)
  · try simp only [decide_eq_true_eq, decide_eq_false_iff_not, ne_eq, Decidable.not_not, Bool.not_eq_true', Bool.not_eq_false', Bool.or_eq_true, Bool.and_eq_true, Bool.or_eq_false_iff, Bool.and_eq_false_iff] at hc5
    refine W_seq (fun K6 hK6 => ?_)
    refine W_region hT hG [300049, 300067] [4] ?_
    rw [hnt]
    simp only [baseS, eq_self, implies_true, if_true, if_false, reduceIte, Nat.reduceBEq, Nat.reduceEqDiff, Nat.reduceLT, Nat.reduceAdd, reduceCtorEq, tyInt, tdInt, tyRows, tdRows, tyInts, tdInts, cR_spec_l12Best, c_spec_l1Has, c_spec_l12Many, decide_false, room, Nat.reduceLeDiff, Nat.zero_le, storeAV, rowQ, ownInts, FT.of, FT.setf, elems, appAV_I, appI, srcI, ownI, anyI, sameR, appAV_P, appP, srcP, ownP, anyP, Int.toNat_one, Int.toNat_natCast]
    repeat (refine And.intro ?_ ?_; focus (first | exact ordP (by kernel_rfl) | with_reducible exact rfl | assumption | trivial | (simp only [inR]; omega) | omega | exact ⟨by omega, by omega⟩ | exact ⟨by omega, by omega, by omega⟩ | exact plugS_bound hul (by simp only [List.length_append, List.length_singleton, List.length_nil]; omega) | exact ⟨by rw [hl1]; omega, by rw [hl1]; omega, hul, hu⟩ | ((try simp only [decide_eq_true_eq, Bool.and_eq_true, ne_eq, decide_not, Bool.not_eq_true', Bool.not_eq_false', Bool.or_eq_false_iff, Bool.not_not, decide_eq_false_iff_not]); (try intro hh); (repeat' apply And.intro) <;> (first | omega | (simp only [inR]; omega) | assumption | exact plugS_bound hul (by simp only [List.length_append, List.length_singleton, List.length_nil]; omega) | exact ⟨by rw [hl1]; omega, by rw [hl1]; omega, hul, hu⟩ | exact hh.1 | exact hh.2 | exact hh.2.1 | exact hh.2.2 | exact hh.1.1 | exact hh.1.2 | (intro hq; exact ⟨hh, hq⟩) | (intro hq; exact ⟨hh.1, hq⟩) | (simp_all; done)))))
    refine hK6 _ ?_
    clear hK6
    refine W_ret ?_
    simp only [thenQ, blockQ, loopQ, retQ, reduceIte, Nat.reduceEqDiff]
    refine ret0 ?_ rfl rfl (.inl rfl) rfl
    simp only [show Try.f19.results.toList = [ResultVar.tmp 4] from rfl, resAV, resL, look, Nat.reduceEqDiff, reduceIte, applyUps, noH, isStr, List.length_cons, List.length_nil, Nat.reduceAdd, and_self]
    all_goals (
      refine congrArg (fun x => some (AV.rs .i64 x)) ?_
      first
      | (have e : u.drop pl.length = [] := List.drop_eq_nil_of_le (by omega); rw [e]; rfl)
      | (have e := plugS_ne (u := u) (k := pl.length) (by omega) pl; rw [← accS_end (pl := pl) HCPREV, ← hI] at e; rw [e]; have hz := hc5; simp only [hl1] at hz ⊢; first | (rw [if_pos (by omega)]; done) | (rw [if_neg (by omega)]; done)))
  · try simp only [decide_eq_true_eq, decide_eq_false_iff_not, ne_eq, Decidable.not_not, Bool.not_eq_true', Bool.not_eq_false', Bool.or_eq_true, Bool.and_eq_true, Bool.or_eq_false_iff, Bool.and_eq_false_iff] at hc5
    refine W_skip ?_
    simp only [thenQ, blockQ, loopQ, reduceIte, Nat.reduceEqDiff]
    refine hK3 _ ?_
    clear hK3
    refine W_seq (fun K7 hK7 => ?_)
    refine W_region hT hG [300049, 300067] [0, 1, 5, 6] ?_
    rw [hnt]
    simp only [baseS, eq_self, implies_true, if_true, if_false, reduceIte, Nat.reduceBEq, Nat.reduceEqDiff, Nat.reduceLT, Nat.reduceAdd, reduceCtorEq, tyInt, tdInt, tyRows, tdRows, tyInts, tdInts, cR_spec_l12Best, c_spec_l1Has, c_spec_l12Many, decide_false, room, Nat.reduceLeDiff, Nat.zero_le, storeAV, rowQ, ownInts, FT.of, FT.setf, elems, appAV_I, appI, srcI, ownI, anyI, sameR, appAV_P, appP, srcP, ownP, anyP, Int.toNat_one, Int.toNat_natCast]
    repeat (refine And.intro ?_ ?_; focus (first | exact ordP (by kernel_rfl) | with_reducible exact rfl | assumption | trivial | (simp only [inR]; omega) | omega | exact ⟨by omega, by omega⟩ | exact ⟨by omega, by omega, by omega⟩ | exact plugS_bound hul (by simp only [List.length_append, List.length_singleton, List.length_nil]; omega) | exact ⟨by rw [hl1]; omega, by rw [hl1]; omega, hul, hu⟩ | ((try simp only [decide_eq_true_eq, Bool.and_eq_true, ne_eq, decide_not, Bool.not_eq_true', Bool.not_eq_false', Bool.or_eq_false_iff, Bool.not_not, decide_eq_false_iff_not]); (try intro hh); (repeat' apply And.intro) <;> (first | omega | (simp only [inR]; omega) | assumption | exact plugS_bound hul (by simp only [List.length_append, List.length_singleton, List.length_nil]; omega) | exact ⟨by rw [hl1]; omega, by rw [hl1]; omega, hul, hu⟩ | exact hh.1 | exact hh.2 | exact hh.2.1 | exact hh.2.2 | exact hh.1.1 | exact hh.1.2 | (intro hq; exact ⟨hh, hq⟩) | (intro hq; exact ⟨hh.1, hq⟩) | (simp_all; done)))))
    refine hK7 _ ?_
    clear hK7
    refine W_seq (fun K8 hK8 => ?_)
    refine W_seq (fun K9 hK9 => ?_)
    refine W_region hT hG [300049, 300067] [0, 1, 5, 6, 7] ?_
    rw [hnt]
    simp only [baseS, eq_self, implies_true, if_true, if_false, reduceIte, Nat.reduceBEq, Nat.reduceEqDiff, Nat.reduceLT, Nat.reduceAdd, reduceCtorEq, tyInt, tdInt, tyRows, tdRows, tyInts, tdInts, cR_spec_l12Best, c_spec_l1Has, c_spec_l12Many, decide_false, room, Nat.reduceLeDiff, Nat.zero_le, storeAV, rowQ, ownInts, FT.of, FT.setf, elems, appAV_I, appI, srcI, ownI, anyI, sameR, appAV_P, appP, srcP, ownP, anyP, Int.toNat_one, Int.toNat_natCast]
    repeat (refine And.intro ?_ ?_; focus (first | exact ordP (by kernel_rfl) | with_reducible exact rfl | assumption | trivial | (simp only [inR]; omega) | omega | exact ⟨by omega, by omega⟩ | exact ⟨by omega, by omega, by omega⟩ | exact plugS_bound hul (by simp only [List.length_append, List.length_singleton, List.length_nil]; omega) | exact ⟨by rw [hl1]; omega, by rw [hl1]; omega, hul, hu⟩ | ((try simp only [decide_eq_true_eq, Bool.and_eq_true, ne_eq, decide_not, Bool.not_eq_true', Bool.not_eq_false', Bool.or_eq_false_iff, Bool.not_not, decide_eq_false_iff_not]); (try intro hh); (repeat' apply And.intro) <;> (first | omega | (simp only [inR]; omega) | assumption | exact plugS_bound hul (by simp only [List.length_append, List.length_singleton, List.length_nil]; omega) | exact ⟨by rw [hl1]; omega, by rw [hl1]; omega, hul, hu⟩ | exact hh.1 | exact hh.2 | exact hh.2.1 | exact hh.2.2 | exact hh.1.1 | exact hh.1.2 | (intro hq; exact ⟨hh, hq⟩) | (intro hq; exact ⟨hh.1, hq⟩) | (simp_all; done)))))
    refine hK9 _ ?_
    clear hK9
    refine W_block ?_
    refine W_loop (α := Int × List Int) [(0, .as), (1, .as), (5, .as), (6, .fz .i64), (7, .as)] (fun x => ⟨[(0, .rows u), (1, .rs .i64 pl), (5, .int pl.length), (6, .rs .i64 x.2), (7, .int x.1)], [], 81⟩) (fun x => 0 ≤ x.1 ∧ x.1 ≤ (u.getD pl.length []).length ∧ x.2 = accS u pl.length pl x.1.toNat) (fun x => ((u.getD pl.length []).length - x.1).toNat) (0, []) ?_ ?_ ?_
    · (try simp only [hnt, hnp]); rfl
    · exact ⟨by omega, by omega, rfl⟩
    rintro ⟨i, best⟩ ⟨hi0, hi1, hI⟩
    dsimp only at hi0 hi1 hI ⊢
    have hx := huk.2 i.toNat
    have hbl : best.length ≤ 9223372036854775807 := by rw [hI]; have := accS_len u pl.length pl i.toNat; omega
    have hlt : pl.length < u.length := by omega
    refine W_seq (fun K11 hK11 => ?_)
    refine W_seq (fun K12 hK12 => ?_)
    refine W_region hT hG [300049, 300067] [0, 1, 5, 6, 7, 24] ?_
    rw [hnt]
    simp only [baseS, eq_self, implies_true, if_true, if_false, reduceIte, Nat.reduceBEq, Nat.reduceEqDiff, Nat.reduceLT, Nat.reduceAdd, reduceCtorEq, tyInt, tdInt, tyRows, tdRows, tyInts, tdInts, cR_spec_l12Best, c_spec_l1Has, c_spec_l12Many, decide_false, room, Nat.reduceLeDiff, Nat.zero_le, storeAV, rowQ, ownInts, FT.of, FT.setf, elems, appAV_I, appI, srcI, ownI, anyI, sameR, appAV_P, appP, srcP, ownP, anyP, Int.toNat_one, Int.toNat_natCast]
    repeat (refine And.intro ?_ ?_; focus (first | exact ordP (by kernel_rfl) | with_reducible exact rfl | assumption | trivial | (simp only [inR]; omega) | omega | exact ⟨by omega, by omega⟩ | exact ⟨by omega, by omega, by omega⟩ | exact plugS_bound hul (by simp only [List.length_append, List.length_singleton, List.length_nil]; omega) | exact ⟨by rw [hl1]; omega, by rw [hl1]; omega, hul, hu⟩ | ((try simp only [decide_eq_true_eq, Bool.and_eq_true, ne_eq, decide_not, Bool.not_eq_true', Bool.not_eq_false', Bool.or_eq_false_iff, Bool.not_not, decide_eq_false_iff_not]); (try intro hh); (repeat' apply And.intro) <;> (first | omega | (simp only [inR]; omega) | assumption | exact plugS_bound hul (by simp only [List.length_append, List.length_singleton, List.length_nil]; omega) | exact ⟨by rw [hl1]; omega, by rw [hl1]; omega, hul, hu⟩ | exact hh.1 | exact hh.2 | exact hh.2.1 | exact hh.2.2 | exact hh.1.1 | exact hh.1.2 | (intro hq; exact ⟨hh, hq⟩) | (intro hq; exact ⟨hh.1, hq⟩) | (simp_all; done)))))
    refine hK12 _ ?_
    clear hK12
    refine W_cond (b := _) rfl (fun hc13 => ?_) (fun hc13 => ?_)
    · try simp only [decide_eq_true_eq, decide_eq_false_iff_not, ne_eq, Decidable.not_not, Bool.not_eq_true', Bool.not_eq_false', Bool.or_eq_true, Bool.and_eq_true, Bool.or_eq_false_iff, Bool.and_eq_false_iff] at hc13
      refine W_skip ?_
      simp only [thenQ, blockQ, loopQ, reduceIte, Nat.reduceEqDiff]
      refine hK11 _ ?_
      clear hK11
      refine W_seq (fun K14 hK14 => ?_)
      refine W_block ?_
      refine W_seq (fun K15 hK15 => ?_)
      refine W_region hT hG [300049, 300067] [0, 1, 5, 6, 7, 36] ?_
      rw [hnt]
      simp only [baseS, eq_self, implies_true, if_true, if_false, reduceIte, Nat.reduceBEq, Nat.reduceEqDiff, Nat.reduceLT, Nat.reduceAdd, reduceCtorEq, tyInt, tdInt, tyRows, tdRows, tyInts, tdInts, cR_spec_l12Best, c_spec_l1Has, c_spec_l12Many, decide_false, room, Nat.reduceLeDiff, Nat.zero_le, storeAV, rowQ, ownInts, FT.of, FT.setf, elems, appAV_I, appI, srcI, ownI, anyI, sameR, appAV_P, appP, srcP, ownP, anyP, Int.toNat_one, Int.toNat_natCast]
      repeat (refine And.intro ?_ ?_; focus (first | exact ordP (by kernel_rfl) | with_reducible exact rfl | assumption | trivial | (simp only [inR]; omega) | omega | exact ⟨by omega, by omega⟩ | exact ⟨by omega, by omega, by omega⟩ | exact plugS_bound hul (by simp only [List.length_append, List.length_singleton, List.length_nil]; omega) | exact ⟨by rw [hl1]; omega, by rw [hl1]; omega, hul, hu⟩ | ((try simp only [decide_eq_true_eq, Bool.and_eq_true, ne_eq, decide_not, Bool.not_eq_true', Bool.not_eq_false', Bool.or_eq_false_iff, Bool.not_not, decide_eq_false_iff_not]); (try intro hh); (repeat' apply And.intro) <;> (first | omega | (simp only [inR]; omega) | assumption | exact plugS_bound hul (by simp only [List.length_append, List.length_singleton, List.length_nil]; omega) | exact ⟨by rw [hl1]; omega, by rw [hl1]; omega, hul, hu⟩ | exact hh.1 | exact hh.2 | exact hh.2.1 | exact hh.2.2 | exact hh.1.1 | exact hh.1.2 | (intro hq; exact ⟨hh, hq⟩) | (intro hq; exact ⟨hh.1, hq⟩) | (simp_all; done)))))
      refine hK15 _ ?_
      clear hK15
      refine W_cond (b := _) rfl (fun hc16 => ?_) (fun hc16 => ?_)
      · try simp only [decide_eq_true_eq, decide_eq_false_iff_not, ne_eq, Decidable.not_not, Bool.not_eq_true', Bool.not_eq_false', Bool.or_eq_true, Bool.and_eq_true, Bool.or_eq_false_iff, Bool.and_eq_false_iff] at hc16
        refine W_seq (fun K17 hK17 => ?_)
        refine W_region_draw hT hG (by rw [hP]; exact draws_ok) [300049, 300067] [0, 1, 5, 6, 7, 8] ?_
        rw [hnt]
        simp only [baseS, eq_self, implies_true, if_true, if_false, reduceIte, Nat.reduceBEq, Nat.reduceEqDiff, Nat.reduceLT, Nat.reduceAdd, reduceCtorEq, tyInt, tdInt, tyRows, tdRows, tyInts, tdInts, cR_spec_l12Best, c_spec_l1Has, c_spec_l12Many, decide_false, room, Nat.reduceLeDiff, Nat.zero_le, storeAV, rowQ, ownInts, FT.of, FT.setf, elems, appAV_I, appI, srcI, ownI, anyI, sameR, appAV_P, appP, srcP, ownP, anyP, Int.toNat_one, Int.toNat_natCast]
        repeat (refine And.intro ?_ ?_; focus (first | (with_reducible exact trivial) | omega | exact ⟨by omega, by omega⟩ | exact ⟨by rw [hl1]; omega, by rw [hl1]; omega, hul, hu⟩ | exact ordP (by kernel_rfl)))
        refine hK17 _ ?_
        clear hK17
        refine W_seq (fun K18 hK18 => ?_)
        refine W_region hT hG [300049, 300067] [0, 1, 5, 6, 7, 8, 60] ?_
        rw [hnt]
        simp only [baseS, eq_self, implies_true, if_true, if_false, reduceIte, Nat.reduceBEq, Nat.reduceEqDiff, Nat.reduceLT, Nat.reduceAdd, reduceCtorEq, tyInt, tdInt, tyRows, tdRows, tyInts, tdInts, cR_spec_l12Best, c_spec_l1Has, c_spec_l12Many, decide_false, room, Nat.reduceLeDiff, Nat.zero_le, storeAV, rowQ, ownInts, FT.of, FT.setf, elems, appAV_I, appI, srcI, ownI, anyI, sameR, appAV_P, appP, srcP, ownP, anyP, Int.toNat_one, Int.toNat_natCast]
        repeat (refine And.intro ?_ ?_; focus (first | exact ordP (by kernel_rfl) | with_reducible exact rfl | assumption | trivial | (simp only [inR]; omega) | omega | exact ⟨by omega, by omega⟩ | exact ⟨by omega, by omega, by omega⟩ | exact plugS_bound hul (by simp only [List.length_append, List.length_singleton, List.length_nil]; omega) | exact ⟨by rw [hl1]; omega, by rw [hl1]; omega, hul, hu⟩ | ((try simp only [decide_eq_true_eq, Bool.and_eq_true, ne_eq, decide_not, Bool.not_eq_true', Bool.not_eq_false', Bool.or_eq_false_iff, Bool.not_not, decide_eq_false_iff_not]); (try intro hh); (repeat' apply And.intro) <;> (first | omega | (simp only [inR]; omega) | assumption | exact plugS_bound hul (by simp only [List.length_append, List.length_singleton, List.length_nil]; omega) | exact ⟨by rw [hl1]; omega, by rw [hl1]; omega, hul, hu⟩ | exact hh.1 | exact hh.2 | exact hh.2.1 | exact hh.2.2 | exact hh.1.1 | exact hh.1.2 | (intro hq; exact ⟨hh, hq⟩) | (intro hq; exact ⟨hh.1, hq⟩) | (simp_all; done)))))
        refine hK18 _ ?_
        clear hK18
        refine W_cond (b := _) rfl (fun hc19 => ?_) (fun hc19 => ?_)
        · try simp only [decide_eq_true_eq, decide_eq_false_iff_not, ne_eq, Decidable.not_not, Bool.not_eq_true', Bool.not_eq_false', Bool.or_eq_true, Bool.and_eq_true, Bool.or_eq_false_iff, Bool.and_eq_false_iff] at hc19
          refine W_region hT hG [300049, 300067] [0, 1, 5, 6, 7] ?_
          rw [hnt]
          simp only [baseS, eq_self, implies_true, if_true, if_false, reduceIte, Nat.reduceBEq, Nat.reduceEqDiff, Nat.reduceLT, Nat.reduceAdd, reduceCtorEq, tyInt, tdInt, tyRows, tdRows, tyInts, tdInts, cR_spec_l12Best, c_spec_l1Has, c_spec_l12Many, decide_false, room, Nat.reduceLeDiff, Nat.zero_le, storeAV, rowQ, ownInts, FT.of, FT.setf, elems, appAV_I, appI, srcI, ownI, anyI, sameR, appAV_P, appP, srcP, ownP, anyP, Int.toNat_one, Int.toNat_natCast]
          repeat (refine And.intro ?_ ?_; focus (first | exact ordP (by kernel_rfl) | with_reducible exact rfl | assumption | trivial | (simp only [inR]; omega) | omega | exact ⟨by omega, by omega⟩ | exact ⟨by omega, by omega, by omega⟩ | exact plugS_bound hul (by simp only [List.length_append, List.length_singleton, List.length_nil]; omega) | exact ⟨by rw [hl1]; omega, by rw [hl1]; omega, hul, hu⟩ | ((try simp only [decide_eq_true_eq, Bool.and_eq_true, ne_eq, decide_not, Bool.not_eq_true', Bool.not_eq_false', Bool.or_eq_false_iff, Bool.not_not, decide_eq_false_iff_not]); (try intro hh); (repeat' apply And.intro) <;> (first | omega | (simp only [inR]; omega) | assumption | exact plugS_bound hul (by simp only [List.length_append, List.length_singleton, List.length_nil]; omega) | exact ⟨by rw [hl1]; omega, by rw [hl1]; omega, hul, hu⟩ | exact hh.1 | exact hh.2 | exact hh.2.1 | exact hh.2.2 | exact hh.1.1 | exact hh.1.2 | (intro hq; exact ⟨hh, hq⟩) | (intro hq; exact ⟨hh.1, hq⟩) | (simp_all; done)))))
          refine hK14 _ ?_
          clear hK14
          refine W_region hT hG [300049, 300067] [0, 1, 5, 6, 7] ?_
          rw [hnt]
          simp only [baseS, eq_self, implies_true, if_true, if_false, reduceIte, Nat.reduceBEq, Nat.reduceEqDiff, Nat.reduceLT, Nat.reduceAdd, reduceCtorEq, tyInt, tdInt, tyRows, tdRows, tyInts, tdInts, cR_spec_l12Best, c_spec_l1Has, c_spec_l12Many, decide_false, room, Nat.reduceLeDiff, Nat.zero_le, storeAV, rowQ, ownInts, FT.of, FT.setf, elems, appAV_I, appI, srcI, ownI, anyI, sameR, appAV_P, appP, srcP, ownP, anyP, Int.toNat_one, Int.toNat_natCast]
          repeat (refine And.intro ?_ ?_; focus (unfold inR; omega))
          first
          | (refine ⟨(i + 1, best), (by (try simp only [hnt, hnp]); rfl), ⟨by dsimp only; omega, by dsimp only; omega, ?_⟩, by dsimp only; omega⟩; dsimp only; rw [accS_step hi0 hc16, stepS, if_pos hc19, ← hI]; done)
          | (refine ⟨(i + 1, _), (by (try simp only [hnt, hnp]); rfl), ⟨by dsimp only; omega, by dsimp only; omega, ?_⟩, by dsimp only; omega⟩; dsimp only; rw [accS_step hi0 hc13, stepS, if_neg hc16, ← hI]; have hz := hc19; simp only [hl1] at hz ⊢; first | (rw [if_pos (by omega)]; done) | (rw [if_neg (by omega)]; done))
        · try simp only [decide_eq_true_eq, decide_eq_false_iff_not, ne_eq, Decidable.not_not, Bool.not_eq_true', Bool.not_eq_false', Bool.or_eq_true, Bool.and_eq_true, Bool.or_eq_false_iff, Bool.and_eq_false_iff] at hc19
          refine W_skip ?_
          simp only [thenQ, blockQ, loopQ, reduceIte, Nat.reduceEqDiff]
          refine hK14 _ ?_
          clear hK14
          refine W_region hT hG [300049, 300067] [0, 1, 5, 6, 7] ?_
          rw [hnt]
          simp only [baseS, eq_self, implies_true, if_true, if_false, reduceIte, Nat.reduceBEq, Nat.reduceEqDiff, Nat.reduceLT, Nat.reduceAdd, reduceCtorEq, tyInt, tdInt, tyRows, tdRows, tyInts, tdInts, cR_spec_l12Best, c_spec_l1Has, c_spec_l12Many, decide_false, room, Nat.reduceLeDiff, Nat.zero_le, storeAV, rowQ, ownInts, FT.of, FT.setf, elems, appAV_I, appI, srcI, ownI, anyI, sameR, appAV_P, appP, srcP, ownP, anyP, Int.toNat_one, Int.toNat_natCast]
          repeat (refine And.intro ?_ ?_; focus (unfold inR; omega))
          first
          | (refine ⟨(i + 1, best), (by (try simp only [hnt, hnp]); rfl), ⟨by dsimp only; omega, by dsimp only; omega, ?_⟩, by dsimp only; omega⟩; dsimp only; rw [accS_step hi0 hc16, stepS, if_pos hc19, ← hI]; done)
          | (refine ⟨(i + 1, _), (by (try simp only [hnt, hnp]); rfl), ⟨by dsimp only; omega, by dsimp only; omega, ?_⟩, by dsimp only; omega⟩; dsimp only; rw [accS_step hi0 hc13, stepS, if_neg hc16, ← hI]; have hz := hc19; simp only [hl1] at hz ⊢; first | (rw [if_pos (by omega)]; done) | (rw [if_neg (by omega)]; done))
      · try simp only [decide_eq_true_eq, decide_eq_false_iff_not, ne_eq, Decidable.not_not, Bool.not_eq_true', Bool.not_eq_false', Bool.or_eq_true, Bool.and_eq_true, Bool.or_eq_false_iff, Bool.and_eq_false_iff] at hc16
        refine W_skip ?_
        simp only [thenQ, blockQ, loopQ, reduceIte, Nat.reduceEqDiff]
        refine hK14 _ ?_
        clear hK14
        refine W_region hT hG [300049, 300067] [0, 1, 5, 6, 7] ?_
        rw [hnt]
        simp only [baseS, eq_self, implies_true, if_true, if_false, reduceIte, Nat.reduceBEq, Nat.reduceEqDiff, Nat.reduceLT, Nat.reduceAdd, reduceCtorEq, tyInt, tdInt, tyRows, tdRows, tyInts, tdInts, cR_spec_l12Best, c_spec_l1Has, c_spec_l12Many, decide_false, room, Nat.reduceLeDiff, Nat.zero_le, storeAV, rowQ, ownInts, FT.of, FT.setf, elems, appAV_I, appI, srcI, ownI, anyI, sameR, appAV_P, appP, srcP, ownP, anyP, Int.toNat_one, Int.toNat_natCast]
        repeat (refine And.intro ?_ ?_; focus (unfold inR; omega))
        first
        | (refine ⟨(i + 1, best), (by (try simp only [hnt, hnp]); rfl), ⟨by dsimp only; omega, by dsimp only; omega, ?_⟩, by dsimp only; omega⟩; dsimp only; rw [accS_step hi0 hc13, stepS, if_pos hc16, ← hI]; done)
        | (refine ⟨(i + 1, _), (by (try simp only [hnt, hnp]); rfl), ⟨by dsimp only; omega, by dsimp only; omega, ?_⟩, by dsimp only; omega⟩; dsimp only; rw [accS_step hi0 hc5, stepS, if_neg hc13, ← hI]; have hz := hc16; simp only [hl1] at hz ⊢; first | (rw [if_pos (by omega)]; done) | (rw [if_neg (by omega)]; done))
    · try simp only [decide_eq_true_eq, decide_eq_false_iff_not, ne_eq, Decidable.not_not, Bool.not_eq_true', Bool.not_eq_false', Bool.or_eq_true, Bool.and_eq_true, Bool.or_eq_false_iff, Bool.and_eq_false_iff] at hc13
      refine W_exit ?_
      simp only [thenQ, blockQ, loopQ, reduceIte, Nat.reduceEqDiff]
      refine hK8 _ ?_
      clear hK8
      refine W_seq (fun K20 hK20 => ?_)
      refine W_region hT hG [300049, 300067] [6, 9] ?_
      rw [hnt]
      simp only [baseS, eq_self, implies_true, if_true, if_false, reduceIte, Nat.reduceBEq, Nat.reduceEqDiff, Nat.reduceLT, Nat.reduceAdd, reduceCtorEq, tyInt, tdInt, tyRows, tdRows, tyInts, tdInts, cR_spec_l12Best, c_spec_l1Has, c_spec_l12Many, decide_false, room, Nat.reduceLeDiff, Nat.zero_le, storeAV, rowQ, ownInts, FT.of, FT.setf, elems, appAV_I, appI, srcI, ownI, anyI, sameR, appAV_P, appP, srcP, ownP, anyP, Int.toNat_one, Int.toNat_natCast]
      repeat (refine And.intro ?_ ?_; focus (first | exact ordP (by kernel_rfl) | with_reducible exact rfl | assumption | trivial | (simp only [inR]; omega) | omega | exact ⟨by omega, by omega⟩ | exact ⟨by omega, by omega, by omega⟩ | exact plugS_bound hul (by simp only [List.length_append, List.length_singleton, List.length_nil]; omega) | exact ⟨by rw [hl1]; omega, by rw [hl1]; omega, hul, hu⟩ | ((try simp only [decide_eq_true_eq, Bool.and_eq_true, ne_eq, decide_not, Bool.not_eq_true', Bool.not_eq_false', Bool.or_eq_false_iff, Bool.not_not, decide_eq_false_iff_not]); (try intro hh); (repeat' apply And.intro) <;> (first | omega | (simp only [inR]; omega) | assumption | exact plugS_bound hul (by simp only [List.length_append, List.length_singleton, List.length_nil]; omega) | exact ⟨by rw [hl1]; omega, by rw [hl1]; omega, hul, hu⟩ | exact hh.1 | exact hh.2 | exact hh.2.1 | exact hh.2.2 | exact hh.1.1 | exact hh.1.2 | (intro hq; exact ⟨hh, hq⟩) | (intro hq; exact ⟨hh.1, hq⟩) | (simp_all; done)))))
      refine hK20 _ ?_
      clear hK20
      refine W_seq (fun K21 hK21 => ?_)
      refine W_seq (fun K22 hK22 => ?_)
      refine W_region hT hG [300049, 300067] [6, 9, 78] ?_
      rw [hnt]
      simp only [baseS, eq_self, implies_true, if_true, if_false, reduceIte, Nat.reduceBEq, Nat.reduceEqDiff, Nat.reduceLT, Nat.reduceAdd, reduceCtorEq, tyInt, tdInt, tyRows, tdRows, tyInts, tdInts, cR_spec_l12Best, c_spec_l1Has, c_spec_l12Many, decide_false, room, Nat.reduceLeDiff, Nat.zero_le, storeAV, rowQ, ownInts, FT.of, FT.setf, elems, appAV_I, appI, srcI, ownI, anyI, sameR, appAV_P, appP, srcP, ownP, anyP, Int.toNat_one, Int.toNat_natCast]
      repeat (refine And.intro ?_ ?_; focus (first | exact ordP (by kernel_rfl) | with_reducible exact rfl | assumption | trivial | (simp only [inR]; omega) | omega | exact ⟨by omega, by omega⟩ | exact ⟨by omega, by omega, by omega⟩ | exact plugS_bound hul (by simp only [List.length_append, List.length_singleton, List.length_nil]; omega) | exact ⟨by rw [hl1]; omega, by rw [hl1]; omega, hul, hu⟩ | ((try simp only [decide_eq_true_eq, Bool.and_eq_true, ne_eq, decide_not, Bool.not_eq_true', Bool.not_eq_false', Bool.or_eq_false_iff, Bool.not_not, decide_eq_false_iff_not]); (try intro hh); (repeat' apply And.intro) <;> (first | omega | (simp only [inR]; omega) | assumption | exact plugS_bound hul (by simp only [List.length_append, List.length_singleton, List.length_nil]; omega) | exact ⟨by rw [hl1]; omega, by rw [hl1]; omega, hul, hu⟩ | exact hh.1 | exact hh.2 | exact hh.2.1 | exact hh.2.2 | exact hh.1.1 | exact hh.1.2 | (intro hq; exact ⟨hh, hq⟩) | (intro hq; exact ⟨hh.1, hq⟩) | (simp_all; done)))))
      refine hK22 _ ?_
      clear hK22
      refine W_cond (b := _) rfl (fun hc23 => ?_) (fun hc23 => ?_)
      · try simp only [decide_eq_true_eq, decide_eq_false_iff_not, ne_eq, Decidable.not_not, Bool.not_eq_true', Bool.not_eq_false', Bool.or_eq_true, Bool.and_eq_true, Bool.or_eq_false_iff, Bool.and_eq_false_iff] at hc23
        refine W_region hT hG [300049, 300067] [6] ?_
        rw [hnt]
        simp only [baseS, eq_self, implies_true, if_true, if_false, reduceIte, Nat.reduceBEq, Nat.reduceEqDiff, Nat.reduceLT, Nat.reduceAdd, reduceCtorEq, tyInt, tdInt, tyRows, tdRows, tyInts, tdInts, cR_spec_l12Best, c_spec_l1Has, c_spec_l12Many, decide_false, room, Nat.reduceLeDiff, Nat.zero_le, storeAV, rowQ, ownInts, FT.of, FT.setf, elems, appAV_I, appI, srcI, ownI, anyI, sameR, appAV_P, appP, srcP, ownP, anyP, Int.toNat_one, Int.toNat_natCast]
        repeat (refine And.intro ?_ ?_; focus (first | exact ordP (by kernel_rfl) | with_reducible exact rfl | assumption | trivial | (simp only [inR]; omega) | omega | exact ⟨by omega, by omega⟩ | exact ⟨by omega, by omega, by omega⟩ | exact plugS_bound hul (by simp only [List.length_append, List.length_singleton, List.length_nil]; omega) | exact ⟨by rw [hl1]; omega, by rw [hl1]; omega, hul, hu⟩ | ((try simp only [decide_eq_true_eq, Bool.and_eq_true, ne_eq, decide_not, Bool.not_eq_true', Bool.not_eq_false', Bool.or_eq_false_iff, Bool.not_not, decide_eq_false_iff_not]); (try intro hh); (repeat' apply And.intro) <;> (first | omega | (simp only [inR]; omega) | assumption | exact plugS_bound hul (by simp only [List.length_append, List.length_singleton, List.length_nil]; omega) | exact ⟨by rw [hl1]; omega, by rw [hl1]; omega, hul, hu⟩ | exact hh.1 | exact hh.2 | exact hh.2.1 | exact hh.2.2 | exact hh.1.1 | exact hh.1.2 | (intro hq; exact ⟨hh, hq⟩) | (intro hq; exact ⟨hh.1, hq⟩) | (simp_all; done)))))
        refine hK21 _ ?_
        clear hK21
        refine W_seq (fun K24 hK24 => ?_)
        refine W_region hT hG [300049, 300067] [4] ?_
        rw [hnt]
        simp only [baseS, eq_self, implies_true, if_true, if_false, reduceIte, Nat.reduceBEq, Nat.reduceEqDiff, Nat.reduceLT, Nat.reduceAdd, reduceCtorEq, tyInt, tdInt, tyRows, tdRows, tyInts, tdInts, cR_spec_l12Best, c_spec_l1Has, c_spec_l12Many, decide_false, room, Nat.reduceLeDiff, Nat.zero_le, storeAV, rowQ, ownInts, FT.of, FT.setf, elems, appAV_I, appI, srcI, ownI, anyI, sameR, appAV_P, appP, srcP, ownP, anyP, Int.toNat_one, Int.toNat_natCast]
        repeat (refine And.intro ?_ ?_; focus (first | exact ordP (by kernel_rfl) | with_reducible exact rfl | assumption | trivial | (simp only [inR]; omega) | omega | exact ⟨by omega, by omega⟩ | exact ⟨by omega, by omega, by omega⟩ | exact plugS_bound hul (by simp only [List.length_append, List.length_singleton, List.length_nil]; omega) | exact ⟨by rw [hl1]; omega, by rw [hl1]; omega, hul, hu⟩ | ((try simp only [decide_eq_true_eq, Bool.and_eq_true, ne_eq, decide_not, Bool.not_eq_true', Bool.not_eq_false', Bool.or_eq_false_iff, Bool.not_not, decide_eq_false_iff_not]); (try intro hh); (repeat' apply And.intro) <;> (first | omega | (simp only [inR]; omega) | assumption | exact plugS_bound hul (by simp only [List.length_append, List.length_singleton, List.length_nil]; omega) | exact ⟨by rw [hl1]; omega, by rw [hl1]; omega, hul, hu⟩ | exact hh.1 | exact hh.2 | exact hh.2.1 | exact hh.2.2 | exact hh.1.1 | exact hh.1.2 | (intro hq; exact ⟨hh, hq⟩) | (intro hq; exact ⟨hh.1, hq⟩) | (simp_all; done)))))
        refine hK24 _ ?_
        clear hK24
        refine W_ret ?_
        simp only [thenQ, blockQ, loopQ, retQ, reduceIte, Nat.reduceEqDiff]
        refine ret0 ?_ rfl rfl (.inl rfl) rfl
        simp only [show Try.f19.results.toList = [ResultVar.tmp 4] from rfl, resAV, resL, look, Nat.reduceEqDiff, reduceIte, applyUps, noH, isStr, List.length_cons, List.length_nil, Nat.reduceAdd, and_self]
        all_goals (
          refine congrArg (fun x => some (AV.rs .i64 x)) ?_
          first
          | (have e : u.drop pl.length = [] := List.drop_eq_nil_of_le (by omega); rw [e]; rfl)
          | (have e := plugS_ne (u := u) (k := pl.length) (by omega) pl; rw [← accS_end (pl := pl) hc13, ← hI] at e; rw [e]; have hz := hc23; simp only [hl1] at hz ⊢; first | (rw [if_pos (by omega)]; done) | (rw [if_neg (by omega)]; done)))
      · try simp only [decide_eq_true_eq, decide_eq_false_iff_not, ne_eq, Decidable.not_not, Bool.not_eq_true', Bool.not_eq_false', Bool.or_eq_true, Bool.and_eq_true, Bool.or_eq_false_iff, Bool.and_eq_false_iff] at hc23
        refine W_skip ?_
        simp only [thenQ, blockQ, loopQ, reduceIte, Nat.reduceEqDiff]
        refine hK21 _ ?_
        clear hK21
        refine W_seq (fun K25 hK25 => ?_)
        refine W_region hT hG [300049, 300067] [4] ?_
        rw [hnt]
        simp only [baseS, eq_self, implies_true, if_true, if_false, reduceIte, Nat.reduceBEq, Nat.reduceEqDiff, Nat.reduceLT, Nat.reduceAdd, reduceCtorEq, tyInt, tdInt, tyRows, tdRows, tyInts, tdInts, cR_spec_l12Best, c_spec_l1Has, c_spec_l12Many, decide_false, room, Nat.reduceLeDiff, Nat.zero_le, storeAV, rowQ, ownInts, FT.of, FT.setf, elems, appAV_I, appI, srcI, ownI, anyI, sameR, appAV_P, appP, srcP, ownP, anyP, Int.toNat_one, Int.toNat_natCast]
        repeat (refine And.intro ?_ ?_; focus (first | exact ordP (by kernel_rfl) | with_reducible exact rfl | assumption | trivial | (simp only [inR]; omega) | omega | exact ⟨by omega, by omega⟩ | exact ⟨by omega, by omega, by omega⟩ | exact plugS_bound hul (by simp only [List.length_append, List.length_singleton, List.length_nil]; omega) | exact ⟨by rw [hl1]; omega, by rw [hl1]; omega, hul, hu⟩ | ((try simp only [decide_eq_true_eq, Bool.and_eq_true, ne_eq, decide_not, Bool.not_eq_true', Bool.not_eq_false', Bool.or_eq_false_iff, Bool.not_not, decide_eq_false_iff_not]); (try intro hh); (repeat' apply And.intro) <;> (first | omega | (simp only [inR]; omega) | assumption | exact plugS_bound hul (by simp only [List.length_append, List.length_singleton, List.length_nil]; omega) | exact ⟨by rw [hl1]; omega, by rw [hl1]; omega, hul, hu⟩ | exact hh.1 | exact hh.2 | exact hh.2.1 | exact hh.2.2 | exact hh.1.1 | exact hh.1.2 | (intro hq; exact ⟨hh, hq⟩) | (intro hq; exact ⟨hh.1, hq⟩) | (simp_all; done)))))
        refine hK25 _ ?_
        clear hK25
        refine W_ret ?_
        simp only [thenQ, blockQ, loopQ, retQ, reduceIte, Nat.reduceEqDiff]
        refine ret0 ?_ rfl rfl (.inl rfl) rfl
        simp only [show Try.f19.results.toList = [ResultVar.tmp 4] from rfl, resAV, resL, look, Nat.reduceEqDiff, reduceIte, applyUps, noH, isStr, List.length_cons, List.length_nil, Nat.reduceAdd, and_self]
        all_goals (
          refine congrArg (fun x => some (AV.rs .i64 x)) ?_
          first
          | (have e : u.drop pl.length = [] := List.drop_eq_nil_of_le (by omega); rw [e]; rfl)
          | (have e := plugS_ne (u := u) (k := pl.length) (by omega) pl; rw [← accS_end (pl := pl) hc13, ← hI] at e; rw [e]; have hz := hc23; simp only [hl1] at hz ⊢; first | (rw [if_pos (by omega)]; done) | (rw [if_neg (by omega)]; done)))

theorem mR_spec_l12Best : ∀ n, Meets Try.prog 19 (cR_spec_l12Best n)
  | 0 => m0_spec_l12Best
  | n + 1 => mS_spec_l12Best n (mR_spec_l12Best n)
theorem m_spec_l12Best : Meets Try.prog 19 c_spec_l12Best := mR_spec_l12Best 8

theorem usesB_P {u : List (List Int)} (h : usesB u = true) (hr : ∀ xs ∈ u, xs.length ≤ 9223372036854775807) : usesP u ∧ u.length ≤ 6 := by
  simp only [usesB, Bool.and_eq_true, List.all_eq_true, decide_eq_true_eq] at h
  refine ⟨fun xs hx => ⟨hr xs hx, fun x hm => ?_⟩, by omega⟩
  obtain ⟨k, hk, rfl⟩ := List.getElem_of_mem hm
  have := rowB_iff.1 (h.1 xs hx) k hk
  simp only [okAt, Bool.and_eq_true, decide_eq_true_eq] at this
  have e : xs.getD k 0 = xs[k] := by rw [List.getD_eq_getElem?_getD, List.getElem?_eq_getElem hk]; rfl
  rw [e] at this
  exact this.1
theorem plug_both {u : List (List Int)} (h : usesB u = true) : plugS u [] = (plugI u 0).1 ∧ manyP (plugI u 0).1 = (plugI u 0).2 ∧ (plugI u 0).1.length = u.length := by
  have h0 : ∀ xs ∈ u, ∀ x ∈ xs, 0 ≤ x := by
    simp only [usesB, Bool.and_eq_true, List.all_eq_true, decide_eq_true_eq] at h
    intro xs hx x hm
    obtain ⟨k, hk, rfl⟩ := List.getElem_of_mem hm
    have := rowB_iff.1 (h.1 xs hx) k hk
    simp only [okAt, Bool.and_eq_true, decide_eq_true_eq] at this
    have e : xs.getD k 0 = xs[k] := by rw [List.getD_eq_getElem?_getD, List.getElem?_eq_getElem hk]; rfl
    rw [e] at this
    exact this.1.1
  have := plug_same u 0 [] h0 (fun x _ => by simp)
  simpa using this
def plugInF (u : List (List Int)) : List Int := if usesB u = true then (plugI u 0).1 else []
def plugManyF (u : List (List Int)) : Int := if usesB u = true then (plugI u 0).2 else -1
theorem plugInF_len (u : List (List Int)) : (plugInF u).length ≤ u.length := by
  unfold plugInF; split
  · have := plugI_le u 0; omega
  · simp

def c_spec_PlugIn : Ctr where
  modes := [.v .rr]
  al := true
  run := fun xs os => match xs, os with
    | [.rows u], [] => some ⟨u.length ≤ 9223372036854775807 ∧ ∀ xs ∈ u, xs.length ≤ 9223372036854775807, .rs .i64 (plugInF u), [], []⟩
    | _, _ => none
theorem m_spec_PlugIn : Meets Try.prog 6 c_spec_PlugIn := by
  refine meets_of (T := tyT) tyOK Try.func6 (by rfl) rfl (by decide) ?_
  intro args owns R hrun hpre
  simp only [c_spec_PlugIn] at hrun
  split at hrun
  case h_2 => cases hrun
  rename_i u
  cases hrun
  try dsimp only at hpre
  refine ⟨_, rfl, fun E hP hnt hnp => ?_⟩
  replace hnt : E.nt = 10 := hnt
  replace hnp : E.np = 1 := hnp
  have hT : ∀ t d, tyT t = some d → TyOK E.P t d := hP ▸ tyOK
  have hG : ∀ f C, Γof [(18, c_spec_UsesValid), (19, c_spec_l12Best)] f = some C → Meets E.P f C := hΓof (by rw [hP]; exact ⟨m_spec_UsesValid, m_spec_l12Best, trivial⟩)
  try simp only [show Try.f6.ntmps = 10 from rfl]
  have hp := hpre
  refine W_seq (fun K1 hK1 => ?_)
  refine W_region hT hG [300006, 300008] [0] ?_
  rw [hnt]
  simp only [baseS, eq_self, implies_true, if_true, if_false, reduceIte, Nat.reduceBEq, Nat.reduceEqDiff, Nat.reduceLT, Nat.reduceAdd, reduceCtorEq, tyRows, tdRows, tyInts, tdInts, c_spec_UsesValid, c_spec_l12Best, cR_spec_l12Best, decide_false, room, Nat.reduceLeDiff, Nat.zero_le, storeAV, rowQ, ownInts, FT.of, FT.setf, elems, appAV_I, appI, srcI, ownI, anyI, sameR, appAV_P, appP, srcP, ownP, anyP]
  repeat (refine And.intro ?_ ?_; focus (first | exact ordP (by kernel_rfl) | with_reducible exact rfl | assumption | trivial | (simp only [inR]; omega) | omega | (intro hh; (try obtain ⟨hh1, hh2⟩ := hh); (repeat' apply And.intro) <;> first | assumption | (simp only [inR]; omega) | omega | (intros; (repeat' apply And.intro) <;> first | assumption | (simp only [inR]; omega) | omega)) | (intros; (repeat' apply And.intro) <;> first | assumption | (simp only [inR]; omega) | omega | (simp_all; done) | (simp_all [inR]; omega))))
  refine hK1 _ ?_
  clear hK1
  refine W_seq (fun K2 hK2 => ?_)
  refine W_seq (fun K3 hK3 => ?_)
  refine W_region hT hG [300006, 300008] [0, 5] ?_
  rw [hnt]
  simp only [baseS, eq_self, implies_true, if_true, if_false, reduceIte, Nat.reduceBEq, Nat.reduceEqDiff, Nat.reduceLT, Nat.reduceAdd, reduceCtorEq, tyRows, tdRows, tyInts, tdInts, c_spec_UsesValid, c_spec_l12Best, cR_spec_l12Best, decide_false, room, Nat.reduceLeDiff, Nat.zero_le, storeAV, rowQ, ownInts, FT.of, FT.setf, elems, appAV_I, appI, srcI, ownI, anyI, sameR, appAV_P, appP, srcP, ownP, anyP]
  repeat (refine And.intro ?_ ?_; focus (first | exact ordP (by kernel_rfl) | with_reducible exact rfl | assumption | trivial | (simp only [inR]; omega) | omega | (intro hh; (try obtain ⟨hh1, hh2⟩ := hh); (repeat' apply And.intro) <;> first | assumption | (simp only [inR]; omega) | omega | (intros; (repeat' apply And.intro) <;> first | assumption | (simp only [inR]; omega) | omega)) | (intros; (repeat' apply And.intro) <;> first | assumption | (simp only [inR]; omega) | omega | (simp_all; done) | (simp_all [inR]; omega))))
  refine hK3 _ ?_
  clear hK3
  refine W_cond (b := _) rfl (fun hc4 => ?_) (fun hc4 => ?_)
  · try simp only [decide_eq_true_eq, decide_eq_false_iff_not, ne_eq, Decidable.not_not, Bool.not_eq_true', Bool.not_eq_false', Bool.or_eq_true, Bool.and_eq_true, Bool.or_eq_false_iff, Bool.and_eq_false_iff] at hc4
    refine W_seq (fun K5 hK5 => ?_)
    refine W_region hT hG [300006, 300008] [2] ?_
    rw [hnt]
    simp only [baseS, eq_self, implies_true, if_true, if_false, reduceIte, Nat.reduceBEq, Nat.reduceEqDiff, Nat.reduceLT, Nat.reduceAdd, reduceCtorEq, tyRows, tdRows, tyInts, tdInts, c_spec_UsesValid, c_spec_l12Best, cR_spec_l12Best, decide_false, room, Nat.reduceLeDiff, Nat.zero_le, storeAV, rowQ, ownInts, FT.of, FT.setf, elems, appAV_I, appI, srcI, ownI, anyI, sameR, appAV_P, appP, srcP, ownP, anyP]
    repeat (refine And.intro ?_ ?_; focus (first | exact ordP (by kernel_rfl) | with_reducible exact rfl | assumption | trivial | (simp only [inR]; omega) | omega | (intro hh; (try obtain ⟨hh1, hh2⟩ := hh); (repeat' apply And.intro) <;> first | assumption | (simp only [inR]; omega) | omega | (intros; (repeat' apply And.intro) <;> first | assumption | (simp only [inR]; omega) | omega)) | (intros; (repeat' apply And.intro) <;> first | assumption | (simp only [inR]; omega) | omega | (simp_all; done) | (simp_all [inR]; omega))))
    refine hK5 _ ?_
    clear hK5
    refine W_ret ?_
    simp only [thenQ, blockQ, loopQ, retQ, reduceIte, Nat.reduceEqDiff]
    refine ret0 ?_ rfl rfl (.inl rfl) rfl
    simp only [show Try.f6.results.toList = [ResultVar.tmp 2] from rfl, resAV, resL, look, Nat.reduceEqDiff, reduceIte, applyUps, noH, isStr, List.length_cons, List.length_nil, Nat.reduceAdd, and_self]
    all_goals (
      refine congrArg (fun x => some (AV.rs .i64 x)) ?_
      first | (rw [plugInF, if_pos hc4, ← (plug_both hc4).1]; rfl) | (rw [plugInF, hc4]; rfl))
  · try simp only [decide_eq_true_eq, decide_eq_false_iff_not, ne_eq, Decidable.not_not, Bool.not_eq_true', Bool.not_eq_false', Bool.or_eq_true, Bool.and_eq_true, Bool.or_eq_false_iff, Bool.and_eq_false_iff] at hc4
    refine W_skip ?_
    simp only [thenQ, blockQ, loopQ, reduceIte, Nat.reduceEqDiff]
    refine hK2 _ ?_
    clear hK2
    refine W_seq (fun K6 hK6 => ?_)
    refine W_region hT hG [300006, 300008] [2] ?_
    rw [hnt]
    have hq := usesB_P hc4 hpre.2
    simp only [baseS, eq_self, implies_true, if_true, if_false, reduceIte, Nat.reduceBEq, Nat.reduceEqDiff, Nat.reduceLT, Nat.reduceAdd, reduceCtorEq, tyRows, tdRows, tyInts, tdInts, c_spec_UsesValid, c_spec_l12Best, cR_spec_l12Best, decide_false, room, Nat.reduceLeDiff, Nat.zero_le, storeAV, rowQ, ownInts, FT.of, FT.setf, elems, appAV_I, appI, srcI, ownI, anyI, sameR, appAV_P, appP, srcP, ownP, anyP]
    repeat (refine And.intro ?_ ?_; focus (first | trivial | exact ⟨by simp only [List.length_nil]; omega, by simp, by omega, hq.1⟩ | exact ⟨by omega, by omega, hq.1⟩))
    refine hK6 _ ?_
    clear hK6
    refine W_ret ?_
    simp only [thenQ, blockQ, loopQ, retQ, reduceIte, Nat.reduceEqDiff]
    refine ret0 ?_ rfl rfl (.inl rfl) rfl
    simp only [show Try.f6.results.toList = [ResultVar.tmp 2] from rfl, resAV, resL, look, Nat.reduceEqDiff, reduceIte, applyUps, noH, isStr, List.length_cons, List.length_nil, Nat.reduceAdd, and_self]
    all_goals (
      refine congrArg (fun x => some (AV.rs .i64 x)) ?_
      first | (rw [plugInF, if_pos hc4, ← (plug_both hc4).1]; rfl) | (rw [plugInF, hc4]; rfl))

def c_impl_PlugIn : Ctr where
  modes := [.v .rr]
  al := false
  run := fun xs os => match xs, os with
    | [.rows u], [] => some ⟨u.length ≤ 9223372036854775807 ∧ ∀ xs ∈ u, xs.length ≤ 9223372036854775807, .sl 0, [.sl 3 .i64 (plugInF u)], []⟩
    | _, _ => none
theorem m_impl_PlugIn : Meets Try.prog 8 c_impl_PlugIn := by
  refine meets_of (T := tyT) tyOK Try.func8 (by rfl) rfl (by decide) ?_
  intro args owns R hrun hpre
  simp only [c_impl_PlugIn] at hrun
  split at hrun
  case h_2 => cases hrun
  rename_i u
  cases hrun
  try dsimp only at hpre
  refine ⟨_, rfl, fun E hP hnt hnp => ?_⟩
  replace hnt : E.nt = 14 := hnt
  replace hnp : E.np = 1 := hnp
  have hT : ∀ t d, tyT t = some d → TyOK E.P t d := hP ▸ tyOK
  have hG : ∀ f C, Γof [(20, c_impl_UsesValid), (21, c_impl_plugIn)] f = some C → Meets E.P f C := hΓof (by rw [hP]; exact ⟨m_impl_UsesValid, m_impl_plugIn, trivial⟩)
  try simp only [show Try.f8.ntmps = 14 from rfl]
  have hp := hpre
  refine W_seq (fun K1 hK1 => ?_)
  refine W_region hT hG [] [0] ?_
  rw [hnt]
  simp only [baseS, eq_self, implies_true, if_true, if_false, reduceIte, Nat.reduceBEq, Nat.reduceEqDiff, Nat.reduceLT, Nat.reduceAdd, reduceCtorEq, tyInt, tdInt, tyRows, tdRows, c_impl_UsesValid, c_impl_plugIn, cR_impl_plugIn]
  repeat (refine And.intro ?_ ?_; focus (first | exact ordP (by kernel_rfl) | with_reducible exact rfl | assumption | trivial | (simp only [inR]; omega) | omega | (intro hh; (try obtain ⟨hh1, hh2⟩ := hh); (repeat' apply And.intro) <;> first | assumption | (simp only [inR]; omega) | omega | (intros; (repeat' apply And.intro) <;> first | assumption | (simp only [inR]; omega) | omega)) | (intros; (repeat' apply And.intro) <;> first | assumption | (simp only [inR]; omega) | omega | (simp_all; done) | (simp_all [inR]; omega))))
  refine hK1 _ ?_
  clear hK1
  refine W_seq (fun K2 hK2 => ?_)
  refine W_seq (fun K3 hK3 => ?_)
  refine W_region hT hG [] [0, 7] ?_
  rw [hnt]
  simp only [baseS, eq_self, implies_true, if_true, if_false, reduceIte, Nat.reduceBEq, Nat.reduceEqDiff, Nat.reduceLT, Nat.reduceAdd, reduceCtorEq, tyInt, tdInt, tyRows, tdRows, c_impl_UsesValid, c_impl_plugIn, cR_impl_plugIn]
  repeat (refine And.intro ?_ ?_; focus (first | exact ordP (by kernel_rfl) | with_reducible exact rfl | assumption | trivial | (simp only [inR]; omega) | omega | (intro hh; (try obtain ⟨hh1, hh2⟩ := hh); (repeat' apply And.intro) <;> first | assumption | (simp only [inR]; omega) | omega | (intros; (repeat' apply And.intro) <;> first | assumption | (simp only [inR]; omega) | omega)) | (intros; (repeat' apply And.intro) <;> first | assumption | (simp only [inR]; omega) | omega | (simp_all; done) | (simp_all [inR]; omega))))
  refine hK3 _ ?_
  clear hK3
  refine W_cond (b := _) rfl (fun hc4 => ?_) (fun hc4 => ?_)
  · try simp only [decide_eq_true_eq, decide_eq_false_iff_not, ne_eq, Decidable.not_not, Bool.not_eq_true', Bool.not_eq_false', Bool.or_eq_true, Bool.and_eq_true, Bool.or_eq_false_iff, Bool.and_eq_false_iff] at hc4
    refine W_seq (fun K5 hK5 => ?_)
    refine W_region hT hG [] [2] ?_
    rw [hnt]
    simp only [baseS, eq_self, implies_true, if_true, if_false, reduceIte, Nat.reduceBEq, Nat.reduceEqDiff, Nat.reduceLT, Nat.reduceAdd, reduceCtorEq, tyInt, tdInt, tyRows, tdRows, c_impl_UsesValid, c_impl_plugIn, cR_impl_plugIn]
    repeat (refine And.intro ?_ ?_; focus (first | exact ordP (by kernel_rfl) | with_reducible exact rfl | assumption | trivial | (simp only [inR]; omega) | omega | (intro hh; (try obtain ⟨hh1, hh2⟩ := hh); (repeat' apply And.intro) <;> first | assumption | (simp only [inR]; omega) | omega | (intros; (repeat' apply And.intro) <;> first | assumption | (simp only [inR]; omega) | omega)) | (intros; (repeat' apply And.intro) <;> first | assumption | (simp only [inR]; omega) | omega | (simp_all; done) | (simp_all [inR]; omega))))
    refine hK5 _ ?_
    clear hK5
    refine W_re [(2, .own 3 .i64)] (by (try simp only [hnt, hnp]); rfl) ?_
    refine W_ret ?_
    simp only [thenQ, blockQ, loopQ, retQ, reduceIte, Nat.reduceEqDiff]
    refine ret1s 2 rfl rfl rfl ?_
    all_goals (
      first | (rw [plugInF, if_pos hc4]; rfl) | (rw [plugInF, hc4]; rfl))
  · try simp only [decide_eq_true_eq, decide_eq_false_iff_not, ne_eq, Decidable.not_not, Bool.not_eq_true', Bool.not_eq_false', Bool.or_eq_true, Bool.and_eq_true, Bool.or_eq_false_iff, Bool.and_eq_false_iff] at hc4
    refine W_skip ?_
    simp only [thenQ, blockQ, loopQ, reduceIte, Nat.reduceEqDiff]
    refine hK2 _ ?_
    clear hK2
    refine W_seq (fun K6 hK6 => ?_)
    refine W_region hT hG [] [3] ?_
    rw [hnt]
    have hq := usesB_P hc4 hpre.2
    simp only [baseS, eq_self, implies_true, if_true, if_false, reduceIte, Nat.reduceBEq, Nat.reduceEqDiff, Nat.reduceLT, Nat.reduceAdd, reduceCtorEq, tyInt, tdInt, tyRows, tdRows, c_impl_UsesValid, c_impl_plugIn, cR_impl_plugIn]
    repeat (refine And.intro ?_ ?_; focus (exact ⟨by omega, ⟨by omega, by omega⟩, by omega, hq.1⟩))
    refine hK6 _ ?_
    clear hK6
    refine W_seq (fun K7 hK7 => ?_)
    refine W_region hT hG [] [2] ?_
    rw [hnt]
    simp only [baseS, eq_self, implies_true, if_true, if_false, reduceIte, Nat.reduceBEq, Nat.reduceEqDiff, Nat.reduceLT, Nat.reduceAdd, reduceCtorEq, tyInt, tdInt, tyRows, tdRows, c_impl_UsesValid, c_impl_plugIn, cR_impl_plugIn]
    repeat (refine And.intro ?_ ?_; focus (first | exact ordP (by kernel_rfl) | with_reducible exact rfl | assumption | trivial | (simp only [inR]; omega) | omega | (intro hh; (try obtain ⟨hh1, hh2⟩ := hh); (repeat' apply And.intro) <;> first | assumption | (simp only [inR]; omega) | omega | (intros; (repeat' apply And.intro) <;> first | assumption | (simp only [inR]; omega) | omega)) | (intros; (repeat' apply And.intro) <;> first | assumption | (simp only [inR]; omega) | omega | (simp_all; done) | (simp_all [inR]; omega))))
    refine hK7 _ ?_
    clear hK7
    refine W_re [(2, .own 3 .i64)] (by (try simp only [hnt, hnp]); rfl) ?_
    refine W_ret ?_
    simp only [thenQ, blockQ, loopQ, retQ, reduceIte, Nat.reduceEqDiff]
    refine ret1s 2 rfl rfl rfl ?_
    all_goals (
      first | (rw [plugInF, if_pos hc4]; rfl) | (rw [plugInF, hc4]; rfl))

end Go.Proofs.Ytpiklifnbbhleaa
