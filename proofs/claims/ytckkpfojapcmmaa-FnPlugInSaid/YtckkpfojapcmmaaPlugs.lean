/- Walks over plugs. No condition. -/
import Derived.Test.YtckkpfojapcmmaaUses
import Derived.Test.YtckkpfojapcmmaaLists
namespace Go.Proofs.Ytckkpfojapcmmaa
open Go
set_option linter.unusedVariables false
set_option linter.unusedSimpArgs false

def plugOK (u : List (List Int)) (p : List Int) (k : Nat) : Bool := decide (p.getD k 0 = -1) || (decide (p.getD k 0 ∈ u.getD k []) && !decide (p.getD k 0 ∈ p.take k))
def plugsB (u : List (List Int)) (p : List Int) : Bool := usesB u && decide ((p.length : Int) = u.length) && (List.range p.length).all (plugOK u p)
theorem plugsB_no1 {u : List (List Int)} {p : List Int} (h : usesB u = false ∨ ¬ (p.length : Int) = u.length) : false = plugsB u p := by
  rcases h with h | h
  · simp [plugsB, h]
  · simp only [plugsB, decide_eq_false h, Bool.and_false, Bool.false_and]
theorem plugsB_yes {u : List (List Int)} {p : List Int} {i : Int} (h : usesB u = true ∧ (p.length : Int) = u.length) (hI : ∀ k : Nat, (k : Int) < i → plugOK u p k = true) (h1 : ¬ i < p.length) : true = plugsB u p := by
  have : (List.range p.length).all (plugOK u p) = true := by
    rw [List.all_eq_true]
    intro k hk
    exact hI k (by have := List.mem_range.1 hk; omega)
  simp only [plugsB, h.1, decide_eq_true h.2, this, Bool.and_self]
theorem plugsB_bad {u : List (List Int)} {p : List Int} {i : Int} (h0 : 0 ≤ i) (h1 : i < p.length) (h : plugOK u p i.toNat = false) : false = plugsB u p := by
  symm
  cases hu : plugsB u p with
  | false => rfl
  | true =>
    exfalso
    simp only [plugsB, Bool.and_eq_true, List.all_eq_true] at hu
    have := hu.2 i.toNat (List.mem_range.2 (by omega))
    rw [h] at this; cases this
theorem plugOK_not {u : List (List Int)} {p : List Int} {k : Nat} (h : ¬ p.getD k 0 = -1 ∧ (p.getD k 0 ∉ u.getD k [] ∨ p.getD k 0 ∈ p.take k)) : plugOK u p k = false := by
  obtain ⟨h1, h2⟩ := h
  rcases h2 with h2 | h2
  · simp only [plugOK, decide_eq_false h1, decide_eq_false h2, Bool.false_or, Bool.false_and]
  · simp only [plugOK, decide_eq_false h1, decide_eq_true h2, Bool.false_or, Bool.not_true, Bool.and_false]
theorem plugOK_of {u : List (List Int)} {p : List Int} {k : Nat} (h : p.getD k 0 = -1 ∨ (p.getD k 0 ∈ u.getD k [] ∧ p.getD k 0 ∉ p.take k)) : plugOK u p k = true := by
  rcases h with h1 | ⟨h2, h3⟩
  · simp only [plugOK, decide_eq_true h1, Bool.true_or]
  · simp only [plugOK, decide_eq_true h2, decide_eq_false h3, Bool.not_false, Bool.and_true, Bool.or_true]
theorem plug_next {u : List (List Int)} {p : List Int} {i : Int} (h0 : 0 ≤ i) (h : ∀ k : Nat, (k : Int) < i → plugOK u p k = true) (h1 : plugOK u p i.toNat = true) : ∀ k : Nat, (k : Int) < i + 1 → plugOK u p k = true := by
  intro k hk
  by_cases e : (k : Int) = i
  · have : k = i.toNat := by omega
    rw [this]; exact h1
  · exact h k (by omega)

def c_spec_PlugsValid : Ctr where
  modes := [.v .rr, .v (.r .i64)]
  al := false
  run := fun xs os => match xs, os with
    | [.rows u, .rs .i64 p], [] => some ⟨(u.length ≤ 9223372036854775807 ∧ ∀ xs ∈ u, xs.length ≤ 9223372036854775807) ∧ p.length ≤ 9223372036854775807, .bool (plugsB u p), [], []⟩
    | _, _ => none
theorem m_spec_PlugsValid : Meets Try.prog 28 c_spec_PlugsValid := by
  refine meets_of (T := tyT) tyOK Try.func28 (by rfl) rfl (by decide) ?_
  intro args owns R hrun hpre
  simp only [c_spec_PlugsValid] at hrun
  split at hrun
  case h_2 => cases hrun
  rename_i u p
  cases hrun
  dsimp only at hpre
  refine ⟨_, rfl, fun E hP hnt hnp => ?_⟩
  replace hnt : E.nt = 49 := hnt
  replace hnp : E.np = 2 := hnp
  have hT : ∀ t d, tyT t = some d → TyOK E.P t d := hP ▸ tyOK
  have hG : ∀ f C, Γof [(21, c_spec_UsesValid), (59, c_spec_l1Has)] f = some C → Meets E.P f C := hΓof (by rw [hP]; exact ⟨m_spec_UsesValid, m_spec_l1Has, trivial⟩)
  try simp only [show Try.f28.ntmps = 49 from rfl]
  have hrow := fun i => row_le hpre.1.2 i
  have hp0 := hpre.1
  have hp1 := hpre.2
  refine W_seq (fun K1 hK1 => ?_)
  refine W_region hT hG [] [0, 1] ?_
  rw [hnt]
  simp only [baseS, eq_self, implies_true, if_true, if_false, reduceIte, Nat.reduceBEq, Nat.reduceEqDiff, Nat.reduceLT, Nat.reduceAdd, reduceCtorEq, tyInt, tdInt, tyRows, tdRows, tyInts, tdInts, c_spec_UsesValid, c_spec_l1Has]
  repeat (refine And.intro ?_ ?_; focus (first | exact ordP (by kernel_rfl) | with_reducible exact rfl | assumption | trivial | (simp only [inR]; omega) | omega | (intro hh; (try obtain ⟨hh1, hh2⟩ := hh); (repeat' apply And.intro) <;> first | assumption | (simp only [inR]; omega) | omega | (intros; (repeat' apply And.intro) <;> first | assumption | (simp only [inR]; omega) | omega)) | (intros; (repeat' apply And.intro) <;> first | assumption | (simp only [inR]; omega) | omega | (simp_all; done) | (simp_all [inR]; omega))))
  refine hK1 _ ?_
  clear hK1
  refine W_seq (fun K2 hK2 => ?_)
  refine W_seq (fun K3 hK3 => ?_)
  refine W_region hT hG [] [0, 1, 15] ?_
  rw [hnt]
  simp only [baseS, eq_self, implies_true, if_true, if_false, reduceIte, Nat.reduceBEq, Nat.reduceEqDiff, Nat.reduceLT, Nat.reduceAdd, reduceCtorEq, tyInt, tdInt, tyRows, tdRows, tyInts, tdInts, c_spec_UsesValid, c_spec_l1Has]
  repeat (refine And.intro ?_ ?_; focus (first | exact ordP (by kernel_rfl) | with_reducible exact rfl | assumption | trivial | (simp only [inR]; omega) | omega | (intro hh; (try obtain ⟨hh1, hh2⟩ := hh); (repeat' apply And.intro) <;> first | assumption | (simp only [inR]; omega) | omega | (intros; (repeat' apply And.intro) <;> first | assumption | (simp only [inR]; omega) | omega)) | (intros; (repeat' apply And.intro) <;> first | assumption | (simp only [inR]; omega) | omega | (simp_all; done) | (simp_all [inR]; omega))))
  refine hK3 _ ?_
  clear hK3
  refine W_cond (b := _) rfl (fun hc4 => ?_) (fun hc4 => ?_)
  · try simp only [decide_eq_true_eq, decide_eq_false_iff_not, ne_eq, Decidable.not_not, Bool.not_eq_true', Bool.not_eq_false', Bool.or_eq_true, Bool.and_eq_true, Bool.or_eq_false_iff, Bool.and_eq_false_iff] at hc4
    refine W_seq (fun K5 hK5 => ?_)
    refine W_region hT hG [] [4] ?_
    rw [hnt]
    simp only [baseS, eq_self, implies_true, if_true, if_false, reduceIte, Nat.reduceBEq, Nat.reduceEqDiff, Nat.reduceLT, Nat.reduceAdd, reduceCtorEq, tyInt, tdInt, tyRows, tdRows, tyInts, tdInts, c_spec_UsesValid, c_spec_l1Has]
    repeat (refine And.intro ?_ ?_; focus (first | exact ordP (by kernel_rfl) | with_reducible exact rfl | assumption | trivial | (simp only [inR]; omega) | omega | (intro hh; (try obtain ⟨hh1, hh2⟩ := hh); (repeat' apply And.intro) <;> first | assumption | (simp only [inR]; omega) | omega | (intros; (repeat' apply And.intro) <;> first | assumption | (simp only [inR]; omega) | omega)) | (intros; (repeat' apply And.intro) <;> first | assumption | (simp only [inR]; omega) | omega | (simp_all; done) | (simp_all [inR]; omega))))
    refine hK5 _ ?_
    clear hK5
    refine W_ret ?_
    simp only [thenQ, blockQ, loopQ, retQ, reduceIte, Nat.reduceEqDiff]
    refine ret0 ?_ rfl rfl (.inr rfl) rfl
    simp only [show Try.f28.results.toList = [ResultVar.tmp 4] from rfl, resAV, resL, look, Nat.reduceEqDiff, reduceIte, tyHull, tdHull, applyUps, noH, isStr, List.length_cons, List.length_nil, Nat.reduceAdd, and_self]
    all_goals (
      refine congrArg (fun x => some (AV.bool x)) ?_
      first | exact plugsB_no1 hc4 | exact plugsB_yes hc4 hI hc4 | exact plugsB_bad hi0 (by omega) (plugOK_not hc4))
  · try simp only [decide_eq_true_eq, decide_eq_false_iff_not, ne_eq, Decidable.not_not, Bool.not_eq_true', Bool.not_eq_false', Bool.or_eq_true, Bool.and_eq_true, Bool.or_eq_false_iff, Bool.and_eq_false_iff] at hc4
    refine W_skip ?_
    simp only [thenQ, blockQ, loopQ, reduceIte, Nat.reduceEqDiff]
    refine hK2 _ ?_
    clear hK2
    refine W_seq (fun K6 hK6 => ?_)
    refine W_seq (fun K7 hK7 => ?_)
    refine W_region hT hG [] [0, 1, 5] ?_
    rw [hnt]
    simp only [baseS, eq_self, implies_true, if_true, if_false, reduceIte, Nat.reduceBEq, Nat.reduceEqDiff, Nat.reduceLT, Nat.reduceAdd, reduceCtorEq, tyInt, tdInt, tyRows, tdRows, tyInts, tdInts, c_spec_UsesValid, c_spec_l1Has]
    repeat (refine And.intro ?_ ?_; focus (first | exact ordP (by kernel_rfl) | with_reducible exact rfl | assumption | trivial | (simp only [inR]; omega) | omega | (intro hh; (try obtain ⟨hh1, hh2⟩ := hh); (repeat' apply And.intro) <;> first | assumption | (simp only [inR]; omega) | omega | (intros; (repeat' apply And.intro) <;> first | assumption | (simp only [inR]; omega) | omega)) | (intros; (repeat' apply And.intro) <;> first | assumption | (simp only [inR]; omega) | omega | (simp_all; done) | (simp_all [inR]; omega))))
    refine hK7 _ ?_
    clear hK7
    refine W_block ?_
    refine W_loop (α := Int) [(0, .as), (1, .as), (5, .as)] (fun i => ⟨[(0, .rows u), (1, .rs .i64 p), (5, .int i)], [], 49⟩) (fun i => 0 ≤ i ∧ i ≤ p.length ∧ ∀ k : Nat, (k : Int) < i → plugOK u p k = true) (fun i => (p.length - i).toNat) 0 ?_ ?_ ?_
    · (try simp only [hnt, hnp]); rfl
    · exact ⟨by omega, by omega, fun k hk => by omega⟩
    rintro i ⟨hi0, hi1, hI⟩
    have hri := hrow i.toNat
    have hlu := hc4.2
    have hpi : (p.take i.toNat).length ≤ 9223372036854775807 := by rw [List.length_take]; omega
    refine W_seq (fun K9 hK9 => ?_)
    refine W_seq (fun K10 hK10 => ?_)
    refine W_region hT hG [] [0, 1, 5, 19] ?_
    rw [hnt]
    simp only [baseS, eq_self, implies_true, if_true, if_false, reduceIte, Nat.reduceBEq, Nat.reduceEqDiff, Nat.reduceLT, Nat.reduceAdd, reduceCtorEq, tyInt, tdInt, tyRows, tdRows, tyInts, tdInts, c_spec_UsesValid, c_spec_l1Has]
    repeat (refine And.intro ?_ ?_; focus (first | exact ordP (by kernel_rfl) | with_reducible exact rfl | assumption | trivial | (simp only [inR]; omega) | omega | (intro hh; (try obtain ⟨hh1, hh2⟩ := hh); (repeat' apply And.intro) <;> first | assumption | (simp only [inR]; omega) | omega | (intros; (repeat' apply And.intro) <;> first | assumption | (simp only [inR]; omega) | omega)) | (intros; (repeat' apply And.intro) <;> first | assumption | (simp only [inR]; omega) | omega | (simp_all; done) | (simp_all [inR]; omega))))
    refine hK10 _ ?_
    clear hK10
    refine W_cond (b := _) rfl (fun hc11 => ?_) (fun hc11 => ?_)
    · try simp only [decide_eq_true_eq, decide_eq_false_iff_not, ne_eq, Decidable.not_not, Bool.not_eq_true', Bool.not_eq_false', Bool.or_eq_true, Bool.and_eq_true, Bool.or_eq_false_iff, Bool.and_eq_false_iff] at hc11
      refine W_skip ?_
      simp only [thenQ, blockQ, loopQ, reduceIte, Nat.reduceEqDiff]
      refine hK9 _ ?_
      clear hK9
      refine W_seq (fun K12 hK12 => ?_)
      refine W_block ?_
      refine W_seq (fun K13 hK13 => ?_)
      refine W_region_draw hT hG (by rw [hP]; exact draws_ok) [] [0, 1, 5, 48] ?_
      rw [hnt]
      simp only [baseS, eq_self, implies_true, if_true, if_false, reduceIte, Nat.reduceBEq, Nat.reduceEqDiff, Nat.reduceLT, Nat.reduceAdd, reduceCtorEq, tyInt, tdInt, tyRows, tdRows, tyInts, tdInts, c_spec_UsesValid, c_spec_l1Has]
      repeat (refine And.intro ?_ ?_; focus (first | exact ordP (by kernel_rfl) | with_reducible exact rfl | assumption | (simp only [inR]; omega) | omega | (intro hh; (try obtain ⟨hh1, hh2⟩ := hh); (repeat' apply And.intro) <;> first | assumption | omega | (intros; (repeat' apply And.intro) <;> first | assumption | omega))))
      refine hK13 _ ?_
      clear hK13
      refine W_cond (b := _) rfl (fun hc14 => ?_) (fun hc14 => ?_)
      · try simp only [decide_eq_true_eq, decide_eq_false_iff_not, ne_eq, Decidable.not_not, Bool.not_eq_true', Bool.not_eq_false', Bool.or_eq_true, Bool.and_eq_true, Bool.or_eq_false_iff, Bool.and_eq_false_iff] at hc14
        refine W_seq (fun K15 hK15 => ?_)
        refine W_region hT hG [] [4] ?_
        rw [hnt]
        simp only [baseS, eq_self, implies_true, if_true, if_false, reduceIte, Nat.reduceBEq, Nat.reduceEqDiff, Nat.reduceLT, Nat.reduceAdd, reduceCtorEq, tyInt, tdInt, tyRows, tdRows, tyInts, tdInts, c_spec_UsesValid, c_spec_l1Has]
        repeat (refine And.intro ?_ ?_; focus (first | exact ordP (by kernel_rfl) | with_reducible exact rfl | assumption | trivial | (simp only [inR]; omega) | omega | (intro hh; (try obtain ⟨hh1, hh2⟩ := hh); (repeat' apply And.intro) <;> first | assumption | (simp only [inR]; omega) | omega | (intros; (repeat' apply And.intro) <;> first | assumption | (simp only [inR]; omega) | omega)) | (intros; (repeat' apply And.intro) <;> first | assumption | (simp only [inR]; omega) | omega | (simp_all; done) | (simp_all [inR]; omega))))
        refine hK15 _ ?_
        clear hK15
        refine W_ret ?_
        simp only [thenQ, blockQ, loopQ, retQ, reduceIte, Nat.reduceEqDiff]
        refine ret0 ?_ rfl rfl (.inr rfl) rfl
        simp only [show Try.f28.results.toList = [ResultVar.tmp 4] from rfl, resAV, resL, look, Nat.reduceEqDiff, reduceIte, tyHull, tdHull, applyUps, noH, isStr, List.length_cons, List.length_nil, Nat.reduceAdd, and_self]
        all_goals (
          refine congrArg (fun x => some (AV.bool x)) ?_
          first | exact plugsB_no1 hc14 | exact plugsB_yes hc4 hI hc14 | exact plugsB_bad hi0 (by omega) (plugOK_not hc14))
      · try simp only [decide_eq_true_eq, decide_eq_false_iff_not, ne_eq, Decidable.not_not, Bool.not_eq_true', Bool.not_eq_false', Bool.or_eq_true, Bool.and_eq_true, Bool.or_eq_false_iff, Bool.and_eq_false_iff] at hc14
        refine W_skip ?_
        simp only [thenQ, blockQ, loopQ, reduceIte, Nat.reduceEqDiff]
        refine hK12 _ ?_
        clear hK12
        refine W_region hT hG [] [0, 1, 5] ?_
        rw [hnt]
        simp only [baseS, eq_self, implies_true, if_true, if_false, reduceIte, Nat.reduceBEq, Nat.reduceEqDiff, Nat.reduceLT, Nat.reduceAdd, reduceCtorEq, tyInt, tdInt, tyRows, tdRows, tyInts, tdInts, c_spec_UsesValid, c_spec_l1Has]
        repeat (refine And.intro ?_ ?_; focus (first | exact ordP (by kernel_rfl) | with_reducible exact rfl | assumption | trivial | (simp only [inR]; omega) | omega | (intro hh; (try obtain ⟨hh1, hh2⟩ := hh); (repeat' apply And.intro) <;> first | assumption | (simp only [inR]; omega) | omega | (intros; (repeat' apply And.intro) <;> first | assumption | (simp only [inR]; omega) | omega)) | (intros; (repeat' apply And.intro) <;> first | assumption | (simp only [inR]; omega) | omega | (simp_all; done) | (simp_all [inR]; omega))))
        refine ⟨i + 1, (by (try simp only [hnt, hnp]); rfl), ⟨by omega, by omega, plug_next hi0 hI (plugOK_of hc14)⟩, by dsimp only; omega⟩
    · try simp only [decide_eq_true_eq, decide_eq_false_iff_not, ne_eq, Decidable.not_not, Bool.not_eq_true', Bool.not_eq_false', Bool.or_eq_true, Bool.and_eq_true, Bool.or_eq_false_iff, Bool.and_eq_false_iff] at hc11
      refine W_exit ?_
      simp only [thenQ, blockQ, loopQ, reduceIte, Nat.reduceEqDiff]
      refine hK6 _ ?_
      clear hK6
      refine W_seq (fun K16 hK16 => ?_)
      refine W_region hT hG [] [4] ?_
      rw [hnt]
      simp only [baseS, eq_self, implies_true, if_true, if_false, reduceIte, Nat.reduceBEq, Nat.reduceEqDiff, Nat.reduceLT, Nat.reduceAdd, reduceCtorEq, tyInt, tdInt, tyRows, tdRows, tyInts, tdInts, c_spec_UsesValid, c_spec_l1Has]
      repeat (refine And.intro ?_ ?_; focus (first | exact ordP (by kernel_rfl) | with_reducible exact rfl | assumption | trivial | (simp only [inR]; omega) | omega | (intro hh; (try obtain ⟨hh1, hh2⟩ := hh); (repeat' apply And.intro) <;> first | assumption | (simp only [inR]; omega) | omega | (intros; (repeat' apply And.intro) <;> first | assumption | (simp only [inR]; omega) | omega)) | (intros; (repeat' apply And.intro) <;> first | assumption | (simp only [inR]; omega) | omega | (simp_all; done) | (simp_all [inR]; omega))))
      refine hK16 _ ?_
      clear hK16
      refine W_ret ?_
      simp only [thenQ, blockQ, loopQ, retQ, reduceIte, Nat.reduceEqDiff]
      refine ret0 ?_ rfl rfl (.inr rfl) rfl
      simp only [show Try.f28.results.toList = [ResultVar.tmp 4] from rfl, resAV, resL, look, Nat.reduceEqDiff, reduceIte, tyHull, tdHull, applyUps, noH, isStr, List.length_cons, List.length_nil, Nat.reduceAdd, and_self]
      all_goals (
        refine congrArg (fun x => some (AV.bool x)) ?_
        first | exact plugsB_no1 hc11 | exact plugsB_yes hc4 hI hc11 | exact plugsB_bad hi0 (by omega) (plugOK_not hc11))

def c_impl_PlugsValid : Ctr where
  modes := [.v .rr, .v (.r .i64)]
  al := false
  run := fun xs os => match xs, os with
    | [.rows u, .rs .i64 p], [] => some ⟨(u.length ≤ 9223372036854775807 ∧ ∀ xs ∈ u, xs.length ≤ 9223372036854775807) ∧ p.length ≤ 9223372036854775807, .bool (plugsB u p), [], []⟩
    | _, _ => none
theorem m_impl_PlugsValid : Meets Try.prog 30 c_impl_PlugsValid := by
  refine meets_of (T := tyT) tyOK Try.func30 (by rfl) rfl (by decide) ?_
  intro args owns R hrun hpre
  simp only [c_impl_PlugsValid] at hrun
  split at hrun
  case h_2 => cases hrun
  rename_i u p
  cases hrun
  dsimp only at hpre
  refine ⟨_, rfl, fun E hP hnt hnp => ?_⟩
  replace hnt : E.nt = 43 := hnt
  replace hnp : E.np = 2 := hnp
  have hT : ∀ t d, tyT t = some d → TyOK E.P t d := hP ▸ tyOK
  have hG : ∀ f C, Γof [(23, c_impl_UsesValid), (60, c_slices_Contains_int_int)] f = some C → Meets E.P f C := hΓof (by rw [hP]; exact ⟨m_impl_UsesValid, m_slices_Contains_int_int, trivial⟩)
  try simp only [show Try.f30.ntmps = 43 from rfl]
  have hrow := fun i => row_le hpre.1.2 i
  have hp0 := hpre.1
  have hp1 := hpre.2
  refine W_seq (fun K1 hK1 => ?_)
  refine W_region hT hG [] [0, 1] ?_
  rw [hnt]
  simp only [baseS, eq_self, implies_true, if_true, if_false, reduceIte, Nat.reduceBEq, Nat.reduceEqDiff, Nat.reduceLT, Nat.reduceAdd, reduceCtorEq, tyInt, tdInt, tyRows, tdRows, tyInts, tdInts, c_impl_UsesValid, c_slices_Contains_int_int]
  repeat (refine And.intro ?_ ?_; focus (first | exact ordP (by kernel_rfl) | with_reducible exact rfl | assumption | trivial | (simp only [inR]; omega) | omega | (intro hh; (try obtain ⟨hh1, hh2⟩ := hh); (repeat' apply And.intro) <;> first | assumption | (simp only [inR]; omega) | omega | (intros; (repeat' apply And.intro) <;> first | assumption | (simp only [inR]; omega) | omega)) | (intros; (repeat' apply And.intro) <;> first | assumption | (simp only [inR]; omega) | omega | (simp_all; done) | (simp_all [inR]; omega))))
  refine hK1 _ ?_
  clear hK1
  refine W_seq (fun K2 hK2 => ?_)
  refine W_seq (fun K3 hK3 => ?_)
  refine W_region hT hG [] [0, 1, 16] ?_
  rw [hnt]
  simp only [baseS, eq_self, implies_true, if_true, if_false, reduceIte, Nat.reduceBEq, Nat.reduceEqDiff, Nat.reduceLT, Nat.reduceAdd, reduceCtorEq, tyInt, tdInt, tyRows, tdRows, tyInts, tdInts, c_impl_UsesValid, c_slices_Contains_int_int]
  repeat (refine And.intro ?_ ?_; focus (first | exact ordP (by kernel_rfl) | with_reducible exact rfl | assumption | trivial | (simp only [inR]; omega) | omega | (intro hh; (try obtain ⟨hh1, hh2⟩ := hh); (repeat' apply And.intro) <;> first | assumption | (simp only [inR]; omega) | omega | (intros; (repeat' apply And.intro) <;> first | assumption | (simp only [inR]; omega) | omega)) | (intros; (repeat' apply And.intro) <;> first | assumption | (simp only [inR]; omega) | omega | (simp_all; done) | (simp_all [inR]; omega))))
  refine hK3 _ ?_
  clear hK3
  refine W_cond (b := _) rfl (fun hc4 => ?_) (fun hc4 => ?_)
  · try simp only [decide_eq_true_eq, decide_eq_false_iff_not, ne_eq, Decidable.not_not, Bool.not_eq_true', Bool.not_eq_false', Bool.or_eq_true, Bool.and_eq_true, Bool.or_eq_false_iff, Bool.and_eq_false_iff] at hc4
    refine W_seq (fun K5 hK5 => ?_)
    refine W_region hT hG [] [4] ?_
    rw [hnt]
    simp only [baseS, eq_self, implies_true, if_true, if_false, reduceIte, Nat.reduceBEq, Nat.reduceEqDiff, Nat.reduceLT, Nat.reduceAdd, reduceCtorEq, tyInt, tdInt, tyRows, tdRows, tyInts, tdInts, c_impl_UsesValid, c_slices_Contains_int_int]
    repeat (refine And.intro ?_ ?_; focus (first | exact ordP (by kernel_rfl) | with_reducible exact rfl | assumption | trivial | (simp only [inR]; omega) | omega | (intro hh; (try obtain ⟨hh1, hh2⟩ := hh); (repeat' apply And.intro) <;> first | assumption | (simp only [inR]; omega) | omega | (intros; (repeat' apply And.intro) <;> first | assumption | (simp only [inR]; omega) | omega)) | (intros; (repeat' apply And.intro) <;> first | assumption | (simp only [inR]; omega) | omega | (simp_all; done) | (simp_all [inR]; omega))))
    refine hK5 _ ?_
    clear hK5
    refine W_ret ?_
    simp only [thenQ, blockQ, loopQ, retQ, reduceIte, Nat.reduceEqDiff]
    refine ret0 ?_ rfl rfl (.inr rfl) rfl
    simp only [show Try.f30.results.toList = [ResultVar.tmp 4] from rfl, resAV, resL, look, Nat.reduceEqDiff, reduceIte, tyHull, tdHull, applyUps, noH, isStr, List.length_cons, List.length_nil, Nat.reduceAdd, and_self]
    all_goals (
      refine congrArg (fun x => some (AV.bool x)) ?_
      first | exact plugsB_no1 hc4 | exact plugsB_yes hc4 hI hc4 | exact plugsB_bad hi0 (by omega) (plugOK_not hc4))
  · try simp only [decide_eq_true_eq, decide_eq_false_iff_not, ne_eq, Decidable.not_not, Bool.not_eq_true', Bool.not_eq_false', Bool.or_eq_true, Bool.and_eq_true, Bool.or_eq_false_iff, Bool.and_eq_false_iff] at hc4
    refine W_skip ?_
    simp only [thenQ, blockQ, loopQ, reduceIte, Nat.reduceEqDiff]
    refine hK2 _ ?_
    clear hK2
    refine W_seq (fun K6 hK6 => ?_)
    refine W_seq (fun K7 hK7 => ?_)
    refine W_region hT hG [] [0, 1, 17, 18, 19] ?_
    rw [hnt]
    simp only [baseS, eq_self, implies_true, if_true, if_false, reduceIte, Nat.reduceBEq, Nat.reduceEqDiff, Nat.reduceLT, Nat.reduceAdd, reduceCtorEq, tyInt, tdInt, tyRows, tdRows, tyInts, tdInts, c_impl_UsesValid, c_slices_Contains_int_int]
    repeat (refine And.intro ?_ ?_; focus (first | exact ordP (by kernel_rfl) | with_reducible exact rfl | assumption | trivial | (simp only [inR]; omega) | omega | (intro hh; (try obtain ⟨hh1, hh2⟩ := hh); (repeat' apply And.intro) <;> first | assumption | (simp only [inR]; omega) | omega | (intros; (repeat' apply And.intro) <;> first | assumption | (simp only [inR]; omega) | omega)) | (intros; (repeat' apply And.intro) <;> first | assumption | (simp only [inR]; omega) | omega | (simp_all; done) | (simp_all [inR]; omega))))
    refine hK7 _ ?_
    clear hK7
    refine W_block ?_
    refine W_loop (α := Int) [(0, .as), (1, .as), (17, .as), (18, .as), (19, .as)] (fun i => ⟨[(0, .rows u), (1, .rs .i64 p), (17, .rs .i64 p), (18, .int p.length), (19, .int i)], [], 43⟩) (fun i => 0 ≤ i ∧ i ≤ p.length ∧ ∀ k : Nat, (k : Int) < i → plugOK u p k = true) (fun i => (p.length - i).toNat) 0 ?_ ?_ ?_
    · (try simp only [hnt, hnp]); rfl
    · exact ⟨by omega, by omega, fun k hk => by omega⟩
    rintro i ⟨hi0, hi1, hI⟩
    have hri := hrow i.toNat
    have hlu := hc4.2
    have hpi : (p.take i.toNat).length ≤ 9223372036854775807 := by rw [List.length_take]; omega
    refine W_seq (fun K9 hK9 => ?_)
    refine W_region hT hG [] [0, 1, 17, 18, 19, 20] ?_
    rw [hnt]
    simp only [baseS, eq_self, implies_true, if_true, if_false, reduceIte, Nat.reduceBEq, Nat.reduceEqDiff, Nat.reduceLT, Nat.reduceAdd, reduceCtorEq, tyInt, tdInt, tyRows, tdRows, tyInts, tdInts, c_impl_UsesValid, c_slices_Contains_int_int]
    repeat (refine And.intro ?_ ?_; focus (first | exact ordP (by kernel_rfl) | with_reducible exact rfl | assumption | trivial | (simp only [inR]; omega) | omega | (intro hh; (try obtain ⟨hh1, hh2⟩ := hh); (repeat' apply And.intro) <;> first | assumption | (simp only [inR]; omega) | omega | (intros; (repeat' apply And.intro) <;> first | assumption | (simp only [inR]; omega) | omega)) | (intros; (repeat' apply And.intro) <;> first | assumption | (simp only [inR]; omega) | omega | (simp_all; done) | (simp_all [inR]; omega))))
    refine hK9 _ ?_
    clear hK9
    refine W_seq (fun K10 hK10 => ?_)
    refine W_cond (b := _) rfl (fun hc11 => ?_) (fun hc11 => ?_)
    · try simp only [decide_eq_true_eq, decide_eq_false_iff_not, ne_eq, Decidable.not_not, Bool.not_eq_true', Bool.not_eq_false', Bool.or_eq_true, Bool.and_eq_true, Bool.or_eq_false_iff, Bool.and_eq_false_iff] at hc11
      refine W_skip ?_
      simp only [thenQ, blockQ, loopQ, reduceIte, Nat.reduceEqDiff]
      refine hK10 _ ?_
      clear hK10
      refine W_seq (fun K12 hK12 => ?_)
      refine W_block ?_
      refine W_seq (fun K13 hK13 => ?_)
      refine W_region hT hG [] [0, 1, 5, 6, 17, 18, 19] ?_
      rw [hnt]
      simp only [baseS, eq_self, implies_true, if_true, if_false, reduceIte, Nat.reduceBEq, Nat.reduceEqDiff, Nat.reduceLT, Nat.reduceAdd, reduceCtorEq, tyInt, tdInt, tyRows, tdRows, tyInts, tdInts, c_impl_UsesValid, c_slices_Contains_int_int]
      repeat (refine And.intro ?_ ?_; focus (first | exact ordP (by kernel_rfl) | with_reducible exact rfl | assumption | trivial | (simp only [inR]; omega) | omega | (intro hh; (try obtain ⟨hh1, hh2⟩ := hh); (repeat' apply And.intro) <;> first | assumption | (simp only [inR]; omega) | omega | (intros; (repeat' apply And.intro) <;> first | assumption | (simp only [inR]; omega) | omega)) | (intros; (repeat' apply And.intro) <;> first | assumption | (simp only [inR]; omega) | omega | (simp_all; done) | (simp_all [inR]; omega))))
      refine hK13 _ ?_
      clear hK13
      refine W_seq (fun K14 hK14 => ?_)
      refine W_region hT hG [] [0, 1, 17, 18, 19, 41] ?_
      rw [hnt]
      simp only [baseS, eq_self, implies_true, if_true, if_false, reduceIte, Nat.reduceBEq, Nat.reduceEqDiff, Nat.reduceLT, Nat.reduceAdd, reduceCtorEq, tyInt, tdInt, tyRows, tdRows, tyInts, tdInts, c_impl_UsesValid, c_slices_Contains_int_int]
      repeat (refine And.intro ?_ ?_; focus (first | exact ordP (by kernel_rfl) | with_reducible exact rfl | assumption | (simp only [inR]; omega) | omega | (intro hh; (try obtain ⟨hh1, hh2⟩ := hh); (repeat' apply And.intro) <;> first | assumption | omega | (intros; (repeat' apply And.intro) <;> first | assumption | omega))))
      refine hK14 _ ?_
      clear hK14
      refine W_cond (b := _) rfl (fun hc15 => ?_) (fun hc15 => ?_)
      · try simp only [decide_eq_true_eq, decide_eq_false_iff_not, ne_eq, Decidable.not_not, Bool.not_eq_true', Bool.not_eq_false', Bool.or_eq_true, Bool.and_eq_true, Bool.or_eq_false_iff, Bool.and_eq_false_iff] at hc15
        refine W_seq (fun K16 hK16 => ?_)
        refine W_region hT hG [] [4] ?_
        rw [hnt]
        simp only [baseS, eq_self, implies_true, if_true, if_false, reduceIte, Nat.reduceBEq, Nat.reduceEqDiff, Nat.reduceLT, Nat.reduceAdd, reduceCtorEq, tyInt, tdInt, tyRows, tdRows, tyInts, tdInts, c_impl_UsesValid, c_slices_Contains_int_int]
        repeat (refine And.intro ?_ ?_; focus (first | exact ordP (by kernel_rfl) | with_reducible exact rfl | assumption | trivial | (simp only [inR]; omega) | omega | (intro hh; (try obtain ⟨hh1, hh2⟩ := hh); (repeat' apply And.intro) <;> first | assumption | (simp only [inR]; omega) | omega | (intros; (repeat' apply And.intro) <;> first | assumption | (simp only [inR]; omega) | omega)) | (intros; (repeat' apply And.intro) <;> first | assumption | (simp only [inR]; omega) | omega | (simp_all; done) | (simp_all [inR]; omega))))
        refine hK16 _ ?_
        clear hK16
        refine W_ret ?_
        simp only [thenQ, blockQ, loopQ, retQ, reduceIte, Nat.reduceEqDiff]
        refine ret0 ?_ rfl rfl (.inr rfl) rfl
        simp only [show Try.f30.results.toList = [ResultVar.tmp 4] from rfl, resAV, resL, look, Nat.reduceEqDiff, reduceIte, tyHull, tdHull, applyUps, noH, isStr, List.length_cons, List.length_nil, Nat.reduceAdd, and_self]
        all_goals (
          refine congrArg (fun x => some (AV.bool x)) ?_
          first | exact plugsB_no1 hc15 | exact plugsB_yes hc4 hI hc15 | exact plugsB_bad hi0 (by omega) (plugOK_not hc15))
      · try simp only [decide_eq_true_eq, decide_eq_false_iff_not, ne_eq, Decidable.not_not, Bool.not_eq_true', Bool.not_eq_false', Bool.or_eq_true, Bool.and_eq_true, Bool.or_eq_false_iff, Bool.and_eq_false_iff] at hc15
        refine W_skip ?_
        simp only [thenQ, blockQ, loopQ, reduceIte, Nat.reduceEqDiff]
        refine hK12 _ ?_
        clear hK12
        refine W_region hT hG [] [0, 1, 17, 18, 19] ?_
        rw [hnt]
        simp only [baseS, eq_self, implies_true, if_true, if_false, reduceIte, Nat.reduceBEq, Nat.reduceEqDiff, Nat.reduceLT, Nat.reduceAdd, reduceCtorEq, tyInt, tdInt, tyRows, tdRows, tyInts, tdInts, c_impl_UsesValid, c_slices_Contains_int_int]
        repeat (refine And.intro ?_ ?_; focus (first | exact ordP (by kernel_rfl) | with_reducible exact rfl | assumption | trivial | (simp only [inR]; omega) | omega | (intro hh; (try obtain ⟨hh1, hh2⟩ := hh); (repeat' apply And.intro) <;> first | assumption | (simp only [inR]; omega) | omega | (intros; (repeat' apply And.intro) <;> first | assumption | (simp only [inR]; omega) | omega)) | (intros; (repeat' apply And.intro) <;> first | assumption | (simp only [inR]; omega) | omega | (simp_all; done) | (simp_all [inR]; omega))))
        refine ⟨i + 1, (by (try simp only [hnt, hnp]); rfl), ⟨by omega, by omega, plug_next hi0 hI (plugOK_of hc15)⟩, by dsimp only; omega⟩
    · try simp only [decide_eq_true_eq, decide_eq_false_iff_not, ne_eq, Decidable.not_not, Bool.not_eq_true', Bool.not_eq_false', Bool.or_eq_true, Bool.and_eq_true, Bool.or_eq_false_iff, Bool.and_eq_false_iff] at hc11
      refine W_exit ?_
      simp only [thenQ, blockQ, loopQ, reduceIte, Nat.reduceEqDiff]
      refine hK6 _ ?_
      clear hK6
      refine W_seq (fun K17 hK17 => ?_)
      refine W_region hT hG [] [4] ?_
      rw [hnt]
      simp only [baseS, eq_self, implies_true, if_true, if_false, reduceIte, Nat.reduceBEq, Nat.reduceEqDiff, Nat.reduceLT, Nat.reduceAdd, reduceCtorEq, tyInt, tdInt, tyRows, tdRows, tyInts, tdInts, c_impl_UsesValid, c_slices_Contains_int_int]
      repeat (refine And.intro ?_ ?_; focus (first | exact ordP (by kernel_rfl) | with_reducible exact rfl | assumption | trivial | (simp only [inR]; omega) | omega | (intro hh; (try obtain ⟨hh1, hh2⟩ := hh); (repeat' apply And.intro) <;> first | assumption | (simp only [inR]; omega) | omega | (intros; (repeat' apply And.intro) <;> first | assumption | (simp only [inR]; omega) | omega)) | (intros; (repeat' apply And.intro) <;> first | assumption | (simp only [inR]; omega) | omega | (simp_all; done) | (simp_all [inR]; omega))))
      refine hK17 _ ?_
      clear hK17
      refine W_ret ?_
      simp only [thenQ, blockQ, loopQ, retQ, reduceIte, Nat.reduceEqDiff]
      refine ret0 ?_ rfl rfl (.inr rfl) rfl
      simp only [show Try.f30.results.toList = [ResultVar.tmp 4] from rfl, resAV, resL, look, Nat.reduceEqDiff, reduceIte, tyHull, tdHull, applyUps, noH, isStr, List.length_cons, List.length_nil, Nat.reduceAdd, and_self]
      all_goals (
        refine congrArg (fun x => some (AV.bool x)) ?_
        first | exact plugsB_no1 hc11 | exact plugsB_yes hc4 hI hc11 | exact plugsB_bad hi0 (by omega) (plugOK_not hc11))

def c_laws_FnExactPlugsValid : Ctr where
  modes := [.v .rr, .v (.r .i64)]
  al := false
  run := fun xs os => match xs, os with
    | [.rows u, .rs .i64 p], [] => some ⟨(u.length ≤ 9223372036854775807 ∧ ∀ xs ∈ u, xs.length ≤ 9223372036854775807) ∧ p.length ≤ 9223372036854775807, .bool true, [], []⟩
    | _, _ => none
theorem m_laws_FnExactPlugsValid : Meets Try.prog 8 c_laws_FnExactPlugsValid := by
  refine meets_of (T := tyT) tyOK Try.func8 (by rfl) rfl (by decide) ?_
  intro args owns R hrun hpre
  simp only [c_laws_FnExactPlugsValid] at hrun
  split at hrun
  case h_2 => cases hrun
  rename_i u p
  cases hrun
  dsimp only at hpre
  refine ⟨_, rfl, fun E hP hnt hnp => ?_⟩
  replace hnt : E.nt = 43 := hnt
  replace hnp : E.np = 2 := hnp
  have hT : ∀ t d, tyT t = some d → TyOK E.P t d := hP ▸ tyOK
  have hG : ∀ f C, Γof [(20, c_laws_szIntSS), (22, c_laws_toIntSS), (24, c_laws_eqIntSS), (28, c_spec_PlugsValid), (29, c_laws_toIntS), (30, c_impl_PlugsValid), (31, c_laws_eqIntS)] f = some C → Meets E.P f C := hΓof (by rw [hP]; exact ⟨m_laws_szIntSS, m_laws_toIntSS, m_laws_eqIntSS, m_spec_PlugsValid, m_laws_toIntS, m_impl_PlugsValid, m_laws_eqIntS, trivial⟩)
  try simp only [show Try.f8.ntmps = 43 from rfl]
  have hpu := hpre.1
  have hpp := hpre.2
  have hb : ¬ szSS u 1048576 < 0 → (u.length ≤ 1099511627776 ∧ ∀ xs ∈ u, xs.length ≤ 1099511627776) := fun h => by
    have h2 := szSS_le h
    exact ⟨by omega, fun xs hx => by have := h2.2 xs hx; omega⟩
  refine W_seq (fun K1 hK1 => ?_)
  refine W_region hT hG [] [0, 1] ?_
  rw [hnt]
  simp only [baseS, eq_self, implies_true, if_true, if_false, reduceIte, Nat.reduceBEq, Nat.reduceEqDiff, Nat.reduceLT, Nat.reduceAdd, reduceCtorEq, tyInt, tdInt, tyBool, tdBool, tyRows, tdRows, tyInts, tdInts, c_laws_szIntSS, c_laws_toIntSS, c_laws_eqIntSS, c_spec_PlugsValid, c_laws_toIntS, c_impl_PlugsValid, c_laws_eqIntS]
  repeat (refine And.intro ?_ ?_; focus (first | exact ordP (by kernel_rfl) | with_reducible exact rfl | trivial | assumption | exact hb (by assumption) | exact ⟨hpu, by omega, by omega⟩ | (simp only [inR]; omega) | omega))
  refine hK1 _ ?_
  clear hK1
  refine W_seq (fun K2 hK2 => ?_)
  refine W_seq (fun K3 hK3 => ?_)
  refine W_region hT hG [] [0, 1, 12] ?_
  rw [hnt]
  simp only [baseS, eq_self, implies_true, if_true, if_false, reduceIte, Nat.reduceBEq, Nat.reduceEqDiff, Nat.reduceLT, Nat.reduceAdd, reduceCtorEq, tyInt, tdInt, tyBool, tdBool, tyRows, tdRows, tyInts, tdInts, c_laws_szIntSS, c_laws_toIntSS, c_laws_eqIntSS, c_spec_PlugsValid, c_laws_toIntS, c_impl_PlugsValid, c_laws_eqIntS]
  repeat (refine And.intro ?_ ?_; focus (first | exact ordP (by kernel_rfl) | with_reducible exact rfl | trivial | assumption | exact hb (by assumption) | exact ⟨hpu, by omega, by omega⟩ | (simp only [inR]; omega) | omega))
  refine hK3 _ ?_
  clear hK3
  refine W_cond (b := _) rfl (fun hc4 => ?_) (fun hc4 => ?_)
  · try simp only [decide_eq_true_eq, decide_eq_false_iff_not, ne_eq, Decidable.not_not, Bool.not_eq_true', Bool.not_eq_false', Bool.or_eq_true, Bool.and_eq_true, Bool.or_eq_false_iff, Bool.and_eq_false_iff] at hc4
    refine W_seq (fun K5 hK5 => ?_)
    refine W_region hT hG [] [4] ?_
    rw [hnt]
    simp only [baseS, eq_self, implies_true, if_true, if_false, reduceIte, Nat.reduceBEq, Nat.reduceEqDiff, Nat.reduceLT, Nat.reduceAdd, reduceCtorEq, tyInt, tdInt, tyBool, tdBool, tyRows, tdRows, tyInts, tdInts, c_laws_szIntSS, c_laws_toIntSS, c_laws_eqIntSS, c_spec_PlugsValid, c_laws_toIntS, c_impl_PlugsValid, c_laws_eqIntS]
    repeat (refine And.intro ?_ ?_; focus (first | exact ordP (by kernel_rfl) | with_reducible exact rfl | trivial | assumption | exact hb (by assumption) | exact ⟨hpu, by omega, by omega⟩ | (simp only [inR]; omega) | omega))
    refine hK5 _ ?_
    clear hK5
    refine W_ret ?_
    simp only [thenQ, blockQ, loopQ, retQ, reduceIte, Nat.reduceEqDiff]
    refine ret0 ?_ rfl rfl (.inr rfl) rfl
    simp only [show Try.f8.results.toList = [ResultVar.tmp 4] from rfl, resAV, resL, look, Nat.reduceEqDiff, reduceIte, tyHull, tdHull, applyUps, noH, isStr, List.length_cons, List.length_nil, Nat.reduceAdd, and_self]
    all_goals (
      first | rfl | simp_all)
  · try simp only [decide_eq_true_eq, decide_eq_false_iff_not, ne_eq, Decidable.not_not, Bool.not_eq_true', Bool.not_eq_false', Bool.or_eq_true, Bool.and_eq_true, Bool.or_eq_false_iff, Bool.and_eq_false_iff] at hc4
    refine W_skip ?_
    simp only [thenQ, blockQ, loopQ, reduceIte, Nat.reduceEqDiff]
    refine hK2 _ ?_
    clear hK2
    refine W_seq (fun K6 hK6 => ?_)
    refine W_region hT hG [] [0, 1, 5] ?_
    rw [hnt]
    simp only [baseS, eq_self, implies_true, if_true, if_false, reduceIte, Nat.reduceBEq, Nat.reduceEqDiff, Nat.reduceLT, Nat.reduceAdd, reduceCtorEq, tyInt, tdInt, tyBool, tdBool, tyRows, tdRows, tyInts, tdInts, c_laws_szIntSS, c_laws_toIntSS, c_laws_eqIntSS, c_spec_PlugsValid, c_laws_toIntS, c_impl_PlugsValid, c_laws_eqIntS]
    repeat (refine And.intro ?_ ?_; focus (first | exact ordP (by kernel_rfl) | with_reducible exact rfl | trivial | assumption | exact hb (by assumption) | exact ⟨hpu, by omega, by omega⟩ | (simp only [inR]; omega) | omega))
    refine hK6 _ ?_
    clear hK6
    refine W_seq (fun K7 hK7 => ?_)
    refine W_region hT hG [] [0, 1, 5] ?_
    rw [hnt]
    simp only [baseS, eq_self, implies_true, if_true, if_false, reduceIte, Nat.reduceBEq, Nat.reduceEqDiff, Nat.reduceLT, Nat.reduceAdd, reduceCtorEq, tyInt, tdInt, tyBool, tdBool, tyRows, tdRows, tyInts, tdInts, c_laws_szIntSS, c_laws_toIntSS, c_laws_eqIntSS, c_spec_PlugsValid, c_laws_toIntS, c_impl_PlugsValid, c_laws_eqIntS]
    repeat (refine And.intro ?_ ?_; focus (first | exact ordP (by kernel_rfl) | with_reducible exact rfl | trivial | assumption | exact hb (by assumption) | exact ⟨hpu, by omega, by omega⟩ | (simp only [inR]; omega) | omega))
    refine hK7 _ ?_
    clear hK7
    refine W_seq (fun K8 hK8 => ?_)
    refine W_seq (fun K9 hK9 => ?_)
    refine W_region hT hG [] [0, 1, 17] ?_
    rw [hnt]
    simp only [baseS, eq_self, implies_true, if_true, if_false, reduceIte, Nat.reduceBEq, Nat.reduceEqDiff, Nat.reduceLT, Nat.reduceAdd, reduceCtorEq, tyInt, tdInt, tyBool, tdBool, tyRows, tdRows, tyInts, tdInts, c_laws_szIntSS, c_laws_toIntSS, c_laws_eqIntSS, c_spec_PlugsValid, c_laws_toIntS, c_impl_PlugsValid, c_laws_eqIntS]
    repeat (refine And.intro ?_ ?_; focus (first | exact ordP (by kernel_rfl) | with_reducible exact rfl | trivial | assumption | exact hb (by assumption) | exact ⟨hpu, by omega, by omega⟩ | (simp only [inR]; omega) | omega))
    refine hK9 _ ?_
    clear hK9
    refine W_cond (b := _) rfl (fun hc10 => ?_) (fun hc10 => ?_)
    · try simp only [decide_eq_true_eq, decide_eq_false_iff_not, ne_eq, Decidable.not_not, Bool.not_eq_true', Bool.not_eq_false', Bool.or_eq_true, Bool.and_eq_true, Bool.or_eq_false_iff, Bool.and_eq_false_iff] at hc10
      refine W_seq (fun K11 hK11 => ?_)
      refine W_region hT hG [] [4] ?_
      rw [hnt]
      simp only [baseS, eq_self, implies_true, if_true, if_false, reduceIte, Nat.reduceBEq, Nat.reduceEqDiff, Nat.reduceLT, Nat.reduceAdd, reduceCtorEq, tyInt, tdInt, tyBool, tdBool, tyRows, tdRows, tyInts, tdInts, c_laws_szIntSS, c_laws_toIntSS, c_laws_eqIntSS, c_spec_PlugsValid, c_laws_toIntS, c_impl_PlugsValid, c_laws_eqIntS]
      repeat (refine And.intro ?_ ?_; focus (first | exact ordP (by kernel_rfl) | with_reducible exact rfl | trivial | assumption | exact hb (by assumption) | exact ⟨hpu, by omega, by omega⟩ | (simp only [inR]; omega) | omega))
      refine hK11 _ ?_
      clear hK11
      refine W_ret ?_
      simp only [thenQ, blockQ, loopQ, retQ, reduceIte, Nat.reduceEqDiff]
      refine ret0 ?_ rfl rfl (.inr rfl) rfl
      simp only [show Try.f8.results.toList = [ResultVar.tmp 4] from rfl, resAV, resL, look, Nat.reduceEqDiff, reduceIte, tyHull, tdHull, applyUps, noH, isStr, List.length_cons, List.length_nil, Nat.reduceAdd, and_self]
      all_goals (
        first | rfl | simp_all)
    · try simp only [decide_eq_true_eq, decide_eq_false_iff_not, ne_eq, Decidable.not_not, Bool.not_eq_true', Bool.not_eq_false', Bool.or_eq_true, Bool.and_eq_true, Bool.or_eq_false_iff, Bool.and_eq_false_iff] at hc10
      refine W_skip ?_
      simp only [thenQ, blockQ, loopQ, reduceIte, Nat.reduceEqDiff]
      refine hK8 _ ?_
      clear hK8
      refine W_seq (fun K12 hK12 => ?_)
      refine W_region hT hG [] [0, 1, 6] ?_
      rw [hnt]
      simp only [baseS, eq_self, implies_true, if_true, if_false, reduceIte, Nat.reduceBEq, Nat.reduceEqDiff, Nat.reduceLT, Nat.reduceAdd, reduceCtorEq, tyInt, tdInt, tyBool, tdBool, tyRows, tdRows, tyInts, tdInts, c_laws_szIntSS, c_laws_toIntSS, c_laws_eqIntSS, c_spec_PlugsValid, c_laws_toIntS, c_impl_PlugsValid, c_laws_eqIntS]
      repeat (refine And.intro ?_ ?_; focus (first | exact ordP (by kernel_rfl) | with_reducible exact rfl | trivial | assumption | exact hb (by assumption) | exact ⟨hpu, by omega, by omega⟩ | (simp only [inR]; omega) | omega))
      refine hK12 _ ?_
      clear hK12
      refine W_seq (fun K13 hK13 => ?_)
      refine W_region hT hG [] [0, 1, 6, 7] ?_
      rw [hnt]
      simp only [baseS, eq_self, implies_true, if_true, if_false, reduceIte, Nat.reduceBEq, Nat.reduceEqDiff, Nat.reduceLT, Nat.reduceAdd, reduceCtorEq, tyInt, tdInt, tyBool, tdBool, tyRows, tdRows, tyInts, tdInts, c_laws_szIntSS, c_laws_toIntSS, c_laws_eqIntSS, c_spec_PlugsValid, c_laws_toIntS, c_impl_PlugsValid, c_laws_eqIntS]
      repeat (refine And.intro ?_ ?_; focus (first | exact ordP (by kernel_rfl) | with_reducible exact rfl | trivial | assumption | exact hb (by assumption) | exact ⟨hpu, by omega, by omega⟩ | (simp only [inR]; omega) | omega))
      refine hK13 _ ?_
      clear hK13
      refine W_seq (fun K14 hK14 => ?_)
      refine W_region hT hG [] [0, 1, 6, 7, 8] ?_
      rw [hnt]
      simp only [baseS, eq_self, implies_true, if_true, if_false, reduceIte, Nat.reduceBEq, Nat.reduceEqDiff, Nat.reduceLT, Nat.reduceAdd, reduceCtorEq, tyInt, tdInt, tyBool, tdBool, tyRows, tdRows, tyInts, tdInts, c_laws_szIntSS, c_laws_toIntSS, c_laws_eqIntSS, c_spec_PlugsValid, c_laws_toIntS, c_impl_PlugsValid, c_laws_eqIntS]
      repeat (refine And.intro ?_ ?_; focus (first | exact ordP (by kernel_rfl) | with_reducible exact rfl | trivial | assumption | exact hb (by assumption) | exact ⟨hpu, by omega, by omega⟩ | (simp only [inR]; omega) | omega))
      refine hK14 _ ?_
      clear hK14
      refine W_seq (fun K15 hK15 => ?_)
      refine W_region hT hG [] [0, 1, 6, 7, 8, 9] ?_
      rw [hnt]
      simp only [baseS, eq_self, implies_true, if_true, if_false, reduceIte, Nat.reduceBEq, Nat.reduceEqDiff, Nat.reduceLT, Nat.reduceAdd, reduceCtorEq, tyInt, tdInt, tyBool, tdBool, tyRows, tdRows, tyInts, tdInts, c_laws_szIntSS, c_laws_toIntSS, c_laws_eqIntSS, c_spec_PlugsValid, c_laws_toIntS, c_impl_PlugsValid, c_laws_eqIntS]
      repeat (refine And.intro ?_ ?_; focus (first | exact ordP (by kernel_rfl) | with_reducible exact rfl | trivial | assumption | exact hb (by assumption) | exact ⟨hpu, by omega, by omega⟩ | (simp only [inR]; omega) | omega))
      refine hK15 _ ?_
      clear hK15
      refine W_seq (fun K16 hK16 => ?_)
      refine W_seq (fun K17 hK17 => ?_)
      refine W_region hT hG [] [0, 1, 7, 8, 32] ?_
      rw [hnt]
      simp only [baseS, eq_self, implies_true, if_true, if_false, reduceIte, Nat.reduceBEq, Nat.reduceEqDiff, Nat.reduceLT, Nat.reduceAdd, reduceCtorEq, tyInt, tdInt, tyBool, tdBool, tyRows, tdRows, tyInts, tdInts, c_laws_szIntSS, c_laws_toIntSS, c_laws_eqIntSS, c_spec_PlugsValid, c_laws_toIntS, c_impl_PlugsValid, c_laws_eqIntS]
      repeat (refine And.intro ?_ ?_; focus (first | exact ordP (by kernel_rfl) | with_reducible exact rfl | trivial | assumption | exact hb (by assumption) | exact ⟨hpu, by omega, by omega⟩ | (simp only [inR]; omega) | omega))
      refine hK17 _ ?_
      clear hK17
      refine W_cond (b := _) rfl (fun hc18 => ?_) (fun hc18 => ?_)
      · try simp only [decide_eq_true_eq, decide_eq_false_iff_not, ne_eq, Decidable.not_not, Bool.not_eq_true', Bool.not_eq_false', Bool.or_eq_true, Bool.and_eq_true, Bool.or_eq_false_iff, Bool.and_eq_false_iff] at hc18
        refine W_seq (fun K19 hK19 => ?_)
        refine W_region hT hG [] [4] ?_
        rw [hnt]
        simp only [baseS, eq_self, implies_true, if_true, if_false, reduceIte, Nat.reduceBEq, Nat.reduceEqDiff, Nat.reduceLT, Nat.reduceAdd, reduceCtorEq, tyInt, tdInt, tyBool, tdBool, tyRows, tdRows, tyInts, tdInts, c_laws_szIntSS, c_laws_toIntSS, c_laws_eqIntSS, c_spec_PlugsValid, c_laws_toIntS, c_impl_PlugsValid, c_laws_eqIntS]
        repeat (refine And.intro ?_ ?_; focus (first | exact ordP (by kernel_rfl) | with_reducible exact rfl | trivial | assumption | exact hb (by assumption) | exact ⟨hpu, by omega, by omega⟩ | (simp only [inR]; omega) | omega))
        refine hK19 _ ?_
        clear hK19
        refine W_ret ?_
        simp only [thenQ, blockQ, loopQ, retQ, reduceIte, Nat.reduceEqDiff]
        refine ret0 ?_ rfl rfl (.inr rfl) rfl
        simp only [show Try.f8.results.toList = [ResultVar.tmp 4] from rfl, resAV, resL, look, Nat.reduceEqDiff, reduceIte, tyHull, tdHull, applyUps, noH, isStr, List.length_cons, List.length_nil, Nat.reduceAdd, and_self]
        all_goals (
          first | rfl | simp_all)
      · try simp only [decide_eq_true_eq, decide_eq_false_iff_not, ne_eq, Decidable.not_not, Bool.not_eq_true', Bool.not_eq_false', Bool.or_eq_true, Bool.and_eq_true, Bool.or_eq_false_iff, Bool.and_eq_false_iff] at hc18
        refine W_skip ?_
        simp only [thenQ, blockQ, loopQ, reduceIte, Nat.reduceEqDiff]
        refine hK16 _ ?_
        clear hK16
        refine W_seq (fun K20 hK20 => ?_)
        refine W_seq (fun K21 hK21 => ?_)
        refine W_region hT hG [] [1, 8, 37] ?_
        rw [hnt]
        simp only [baseS, eq_self, implies_true, if_true, if_false, reduceIte, Nat.reduceBEq, Nat.reduceEqDiff, Nat.reduceLT, Nat.reduceAdd, reduceCtorEq, tyInt, tdInt, tyBool, tdBool, tyRows, tdRows, tyInts, tdInts, c_laws_szIntSS, c_laws_toIntSS, c_laws_eqIntSS, c_spec_PlugsValid, c_laws_toIntS, c_impl_PlugsValid, c_laws_eqIntS]
        repeat (refine And.intro ?_ ?_; focus (first | exact ordP (by kernel_rfl) | with_reducible exact rfl | trivial | assumption | exact hb (by assumption) | exact ⟨hpu, by omega, by omega⟩ | (simp only [inR]; omega) | omega))
        refine hK21 _ ?_
        clear hK21
        refine W_cond (b := _) rfl (fun hc22 => ?_) (fun hc22 => ?_)
        · try simp only [decide_eq_true_eq, decide_eq_false_iff_not, ne_eq, Decidable.not_not, Bool.not_eq_true', Bool.not_eq_false', Bool.or_eq_true, Bool.and_eq_true, Bool.or_eq_false_iff, Bool.and_eq_false_iff] at hc22
          refine W_seq (fun K23 hK23 => ?_)
          refine W_region hT hG [] [4] ?_
          rw [hnt]
          simp only [baseS, eq_self, implies_true, if_true, if_false, reduceIte, Nat.reduceBEq, Nat.reduceEqDiff, Nat.reduceLT, Nat.reduceAdd, reduceCtorEq, tyInt, tdInt, tyBool, tdBool, tyRows, tdRows, tyInts, tdInts, c_laws_szIntSS, c_laws_toIntSS, c_laws_eqIntSS, c_spec_PlugsValid, c_laws_toIntS, c_impl_PlugsValid, c_laws_eqIntS]
          repeat (refine And.intro ?_ ?_; focus (first | exact ordP (by kernel_rfl) | with_reducible exact rfl | trivial | assumption | exact hb (by assumption) | exact ⟨hpu, by omega, by omega⟩ | (simp only [inR]; omega) | omega))
          refine hK23 _ ?_
          clear hK23
          refine W_ret ?_
          simp only [thenQ, blockQ, loopQ, retQ, reduceIte, Nat.reduceEqDiff]
          refine ret0 ?_ rfl rfl (.inr rfl) rfl
          simp only [show Try.f8.results.toList = [ResultVar.tmp 4] from rfl, resAV, resL, look, Nat.reduceEqDiff, reduceIte, tyHull, tdHull, applyUps, noH, isStr, List.length_cons, List.length_nil, Nat.reduceAdd, and_self]
          all_goals (
            first | rfl | simp_all)
        · try simp only [decide_eq_true_eq, decide_eq_false_iff_not, ne_eq, Decidable.not_not, Bool.not_eq_true', Bool.not_eq_false', Bool.or_eq_true, Bool.and_eq_true, Bool.or_eq_false_iff, Bool.and_eq_false_iff] at hc22
          refine W_skip ?_
          simp only [thenQ, blockQ, loopQ, reduceIte, Nat.reduceEqDiff]
          refine hK20 _ ?_
          clear hK20
          refine W_seq (fun K24 hK24 => ?_)
          refine W_seq (fun K25 hK25 => ?_)
          refine W_region hT hG [] [42] ?_
          rw [hnt]
          simp only [baseS, eq_self, implies_true, if_true, if_false, reduceIte, Nat.reduceBEq, Nat.reduceEqDiff, Nat.reduceLT, Nat.reduceAdd, reduceCtorEq, tyInt, tdInt, tyBool, tdBool, tyRows, tdRows, tyInts, tdInts, c_laws_szIntSS, c_laws_toIntSS, c_laws_eqIntSS, c_spec_PlugsValid, c_laws_toIntS, c_impl_PlugsValid, c_laws_eqIntS]
          repeat (refine And.intro ?_ ?_; focus (first | exact ordP (by kernel_rfl) | with_reducible exact rfl | trivial | assumption | exact hb (by assumption) | exact ⟨hpu, by omega, by omega⟩ | (simp only [inR]; omega) | omega))
          refine hK25 _ ?_
          clear hK25
          refine W_cond (b := _) rfl (fun hc26 => ?_) (fun hc26 => ?_)
          · try simp only [decide_eq_true_eq, decide_eq_false_iff_not, ne_eq, Decidable.not_not, Bool.not_eq_true', Bool.not_eq_false', Bool.or_eq_true, Bool.and_eq_true, Bool.or_eq_false_iff, Bool.and_eq_false_iff] at hc26
            refine W_seq (fun K27 hK27 => ?_)
            refine W_region hT hG [] [4] ?_
            rw [hnt]
            simp only [baseS, eq_self, implies_true, if_true, if_false, reduceIte, Nat.reduceBEq, Nat.reduceEqDiff, Nat.reduceLT, Nat.reduceAdd, reduceCtorEq, tyInt, tdInt, tyBool, tdBool, tyRows, tdRows, tyInts, tdInts, c_laws_szIntSS, c_laws_toIntSS, c_laws_eqIntSS, c_spec_PlugsValid, c_laws_toIntS, c_impl_PlugsValid, c_laws_eqIntS]
            repeat (refine And.intro ?_ ?_; focus (first | exact ordP (by kernel_rfl) | with_reducible exact rfl | trivial | assumption | exact hb (by assumption) | exact ⟨hpu, by omega, by omega⟩ | (simp only [inR]; omega) | omega))
            refine hK27 _ ?_
            clear hK27
            refine W_ret ?_
            simp only [thenQ, blockQ, loopQ, retQ, reduceIte, Nat.reduceEqDiff]
            refine ret0 ?_ rfl rfl (.inr rfl) rfl
            simp only [show Try.f8.results.toList = [ResultVar.tmp 4] from rfl, resAV, resL, look, Nat.reduceEqDiff, reduceIte, tyHull, tdHull, applyUps, noH, isStr, List.length_cons, List.length_nil, Nat.reduceAdd, and_self]
            all_goals (
              first | rfl | simp_all)
          · try simp only [decide_eq_true_eq, decide_eq_false_iff_not, ne_eq, Decidable.not_not, Bool.not_eq_true', Bool.not_eq_false', Bool.or_eq_true, Bool.and_eq_true, Bool.or_eq_false_iff, Bool.and_eq_false_iff] at hc26
            refine W_skip ?_
            simp only [thenQ, blockQ, loopQ, reduceIte, Nat.reduceEqDiff]
            refine hK24 _ ?_
            clear hK24
            refine W_seq (fun K28 hK28 => ?_)
            refine W_region hT hG [] [4] ?_
            rw [hnt]
            simp only [baseS, eq_self, implies_true, if_true, if_false, reduceIte, Nat.reduceBEq, Nat.reduceEqDiff, Nat.reduceLT, Nat.reduceAdd, reduceCtorEq, tyInt, tdInt, tyBool, tdBool, tyRows, tdRows, tyInts, tdInts, c_laws_szIntSS, c_laws_toIntSS, c_laws_eqIntSS, c_spec_PlugsValid, c_laws_toIntS, c_impl_PlugsValid, c_laws_eqIntS]
            repeat (refine And.intro ?_ ?_; focus (first | exact ordP (by kernel_rfl) | with_reducible exact rfl | trivial | assumption | exact hb (by assumption) | exact ⟨hpu, by omega, by omega⟩ | (simp only [inR]; omega) | omega))
            refine hK28 _ ?_
            clear hK28
            refine W_ret ?_
            simp only [thenQ, blockQ, loopQ, retQ, reduceIte, Nat.reduceEqDiff]
            refine ret0 ?_ rfl rfl (.inr rfl) rfl
            simp only [show Try.f8.results.toList = [ResultVar.tmp 4] from rfl, resAV, resL, look, Nat.reduceEqDiff, reduceIte, tyHull, tdHull, applyUps, noH, isStr, List.length_cons, List.length_nil, Nat.reduceAdd, and_self]
            all_goals (
              first | rfl | simp_all)

end Go.Proofs.Ytckkpfojapcmmaa
