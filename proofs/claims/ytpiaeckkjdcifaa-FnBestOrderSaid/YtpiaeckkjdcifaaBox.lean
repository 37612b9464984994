/- Walks over boxes. No condition. -/
import Derived.Test.YtpiaeckkjdcifaaHull
namespace Go.Proofs.Ytpiaeckkjdcifaa
open Go
set_option linter.unusedVariables false
set_option linter.unusedSimpArgs false

/-- Is it a box as it has to be? -/
def boxV (a b c d : Int) : Bool := decide (1 ≤ a ∧ a ≤ 999) && decide (1 ≤ b ∧ b ≤ 30) && decide (0 ≤ c ∧ c ≤ 3) && decide (0 ≤ d ∧ d ≤ 6)
def boxB (x : BoxD) : Bool := boxV x.id x.weight x.cls x.port
/-- The k-th box. -/
@[reducible] def bx (bs : List BoxD) (k : Nat) : BoxD := bs.getD k ⟨0, 0, 0, 0, false⟩
/-- The first place of a box with this id, from k on. -/
def findF : List BoxD → Int → Int → Int
  | [], _, _ => -1
  | x :: xs, n, k => if x.id = n then k else findF xs n (k + 1)
theorem findF_step {a : List BoxD} {n i k : Int} (h0 : 0 ≤ i) (h : i < a.length) : findF (a.drop i.toNat) n k = if (bx a i.toNat).id = n then k else findF (a.drop (i + 1).toNat) n (k + 1) := by
  have ha : i.toNat < a.length := by omega
  have e : (i + 1).toNat = i.toNat + 1 := by omega
  rw [List.drop_eq_getElem_cons ha, findF, e, bx, List.getD_eq_getElem?_getD, List.getElem?_eq_getElem ha]
  rfl
theorem findF_end {a : List BoxD} {n i k : Int} (h : ¬ i < a.length) : findF (a.drop i.toNat) n k = -1 := by
  rw [List.drop_eq_nil_of_le (by omega)]; rfl
theorem findF_range : ∀ (a : List BoxD) (n k : Int), 0 ≤ k → findF a n k = -1 ∨ (k ≤ findF a n k ∧ findF a n k < k + a.length)
  | [], n, k, h => .inl rfl
  | x :: xs, n, k, h => by
    simp only [findF]
    by_cases hx : x.id = n
    · right; simp [hx]; omega
    · simp only [hx, if_false, List.length_cons]
      rcases findF_range xs n (k + 1) (by omega) with h1 | h1
      · exact .inl h1
      · right; omega
theorem findF_lt {a : List BoxD} {n : Int} (h : 0 ≤ findF a n 0) : findF a n 0 < a.length := by
  rcases findF_range a n 0 (by omega) with h1 | h1 <;> omega
theorem findF_ge (a : List BoxD) (n : Int) : -1 ≤ findF a n 0 ∧ findF a n 0 ≤ a.length := by
  rcases findF_range a n 0 (by omega) with h1 | h1 <;> omega
theorem findF_app : ∀ (a c : List BoxD) (n k : Int), 0 ≤ k → findF (a ++ c) n k = if 0 ≤ findF a n k then findF a n k else findF c n (k + a.length)
  | [], c, n, k, h => by simp [findF]
  | x :: xs, c, n, k, h => by
    simp only [List.cons_append, findF]
    by_cases hx : x.id = n
    · simp [hx, h]
    · simp only [hx, if_false]
      rw [findF_app xs c n (k + 1) (by omega)]
      simp only [List.length_cons]
      congr 2
      omega
theorem findF_id : ∀ (a : List BoxD) (n k : Int), 0 ≤ k → 0 ≤ findF a n k → (bx a (findF a n k - k).toNat).id = n
  | [], n, k, h, h1 => by simp [findF] at h1
  | x :: xs, n, k, h, h1 => by
    simp only [findF] at h1 ⊢
    by_cases hx : x.id = n
    · simp [hx]
    · simp only [hx, if_false] at h1 ⊢
      have := findF_id xs n (k + 1) (by omega) h1
      rcases findF_range xs n (k + 1) (by omega) with h2 | h2
      · omega
      · have e : (findF xs n (k + 1) - k).toNat = (findF xs n (k + 1) - (k + 1)).toNat + 1 := by omega
        rw [e]; simpa using this
theorem findF_mem : ∀ (a : List BoxD) (n k : Int), 0 ≤ k → (0 ≤ findF a n k ↔ n ∈ a.map BoxD.id)
  | [], n, k, h => by simp [findF]
  | x :: xs, n, k, h => by
    simp only [findF, List.map_cons, List.mem_cons]
    by_cases hx : x.id = n
    · simp [hx]; exact h
    · simp only [hx, if_false]
      rw [findF_mem xs n (k + 1) (by omega)]
      constructor
      · exact .inr
      · rintro (h1 | h1)
        · exact absurd h1.symm hx
        · exact h1
/-- Where a box that is there is found: before it, or at it. -/
theorem findF_take {a : List BoxD} {k : Nat} (h : k < a.length) : findF a (bx a k).id 0 < k ↔ 0 ≤ findF (a.take k) (bx a k).id 0 := by
  have e : a = a.take k ++ a.drop k := (List.take_append_drop k a).symm
  have h1 : findF a (bx a k).id 0 = findF (a.take k ++ a.drop k) (bx a k).id 0 := by rw [← e]
  rw [h1, findF_app _ _ _ _ (by omega)]
  have hl : (a.take k).length = k := by rw [List.length_take]; omega
  split
  · rename_i h2
    constructor
    · intro _; exact h2
    · intro _
      have := findF_lt h2
      omega
  · rename_i h2
    have h3 : findF (a.drop k) (bx a k).id (0 + ((a.take k).length : Int)) = (k : Int) := by
      rw [List.drop_eq_getElem_cons h, findF, if_pos, hl]
      · simp
      · rw [bx, List.getD_eq_getElem?_getD, List.getElem?_eq_getElem h]; rfl
    rw [h3]
    constructor
    · intro h4; omega
    · intro h4; exact absurd h4 h2
def bxOK (bs : List BoxD) (k : Nat) : Bool := boxB (bx bs k) && decide (findF (bs.take k) (bx bs k).id 0 < 0)
def boxesB (bs : List BoxD) : Bool := (List.range bs.length).all (bxOK bs) && decide ((bs.length : Int) ≤ 10)
theorem boxesB_bad {bs : List BoxD} {i : Int} (h0 : 0 ≤ i) (h1 : i < bs.length) (h : bxOK bs i.toNat = false) : false = boxesB bs := by
  symm
  cases hu : boxesB bs with
  | false => rfl
  | true =>
    exfalso
    simp only [boxesB, Bool.and_eq_true, List.all_eq_true] at hu
    have := hu.1 i.toNat (List.mem_range.2 (by omega))
    rw [h] at this; cases this
theorem boxesB_end {bs : List BoxD} {i : Int} (h : ∀ k : Nat, (k : Int) < i → bxOK bs k = true) (h1 : ¬ i < bs.length) : decide ((bs.length : Int) ≤ 10) = boxesB bs := by
  have : (List.range bs.length).all (bxOK bs) = true := by
    rw [List.all_eq_true]
    intro k hk
    exact h k (by have := List.mem_range.1 hk; omega)
  rw [boxesB, this, Bool.true_and]
theorem all_next {P : Nat → Bool} {i : Int} (h0 : 0 ≤ i) (h : ∀ k : Nat, (k : Int) < i → P k = true) (h1 : P i.toNat = true) : ∀ k : Nat, (k : Int) < i + 1 → P k = true := by
  intro k hk
  by_cases e : (k : Int) = i
  · have : k = i.toNat := by omega
    rw [this]; exact h1
  · exact h k (by omega)
theorem boxesB_get {bs : List BoxD} (h : boxesB bs = true) : bs.length ≤ 10 ∧ ∀ k, k < bs.length → boxB (bx bs k) = true := by
  simp only [boxesB, Bool.and_eq_true, List.all_eq_true, decide_eq_true_eq] at h
  refine ⟨by omega, fun k hk => ?_⟩
  have := h.1 k (List.mem_range.2 hk)
  simp only [bxOK, Bool.and_eq_true] at this
  exact this.1
theorem boxB_le {x : BoxD} (h : boxB x = true) : (1 ≤ x.id ∧ x.id ≤ 999) ∧ (1 ≤ x.weight ∧ x.weight ≤ 30) ∧ (0 ≤ x.cls ∧ x.cls ≤ 3) ∧ (0 ≤ x.port ∧ x.port ≤ 6) := by
  simp only [boxB, boxV, Bool.and_eq_true, decide_eq_true_eq] at h
  obtain ⟨⟨⟨h1, h2⟩, h3⟩, h4⟩ := h
  exact ⟨h1, h2, h3, h4⟩
/-- A number is the plan's: none, or that of a box. -/
def inBx (bs : List BoxD) (n : Int) : Prop := n = 0 ∨ 0 ≤ findF bs n 0
def wAt (bs : List BoxD) (n : Int) : Int := if n = 0 then 0 else (bx bs (findF bs n 0).toNat).weight
def pAt (bs : List BoxD) (n : Int) : Int := (bx bs (findF bs n 0).toNat).port
def cAt (bs : List BoxD) (n : Int) : Int := (bx bs (findF bs n 0).toNat).cls
theorem wAt_le {bs : List BoxD} {n : Int} (h : boxesB bs = true) (hn : inBx bs n) : 0 ≤ wAt bs n ∧ wAt bs n ≤ 30 := by
  unfold wAt; split
  · omega
  · rename_i h0
    have h1 := hn.resolve_left h0
    have h2 := findF_lt h1
    have := boxB_le ((boxesB_get h).2 (findF bs n 0).toNat (by omega))
    omega
theorem pAt_le {bs : List BoxD} {n : Int} (h : boxesB bs = true) (hn : 0 ≤ findF bs n 0) : 0 ≤ pAt bs n ∧ pAt bs n ≤ 6 := by
  have h2 := findF_lt hn
  have := boxB_le ((boxesB_get h).2 (findF bs n 0).toNat (by omega))
  unfold pAt; omega
theorem cAt_le {bs : List BoxD} {n : Int} (h : boxesB bs = true) (hn : 0 ≤ findF bs n 0) : 0 ≤ cAt bs n ∧ cAt bs n ≤ 3 := by
  have h2 := findF_lt hn
  have := boxB_le ((boxesB_get h).2 (findF bs n 0).toNat (by omega))
  unfold cAt; omega

def c_impl_isId : Ctr where
  modes := [.v .p]
  al := false
  run := fun xs os => match xs, os with
    | [.int a], [] => some ⟨True, .bool (decide (1 ≤ a ∧ a ≤ 999)), [], []⟩
    | _, _ => none
theorem m_impl_isId : Meets Try.prog 148 c_impl_isId := by
  refine meets_of (T := tyT) tyOK Try.func148 (by rfl) rfl (by decide) ?_
  intro args owns R hrun hpre
  simp only [c_impl_isId] at hrun
  split at hrun
  case h_2 => cases hrun
  rename_i a
  cases hrun
  try dsimp only at hpre
  refine ⟨_, rfl, fun E hP hnt hnp => ?_⟩
  replace hnt : E.nt = 5 := hnt
  replace hnp : E.np = 1 := hnp
  have hT : ∀ t d, tyT t = some d → TyOK E.P t d := hP ▸ tyOK
  have hG : ∀ f C, Γof [(62, c_impl_within)] f = some C → Meets E.P f C := hΓof (by rw [hP]; exact ⟨m_impl_within, trivial⟩)
  try simp only [show Try.f148.ntmps = 5 from rfl]
  refine W_seq (fun K1 hK1 => ?_)
  refine W_region hT hG [] [0] ?_
  rw [hnt]
  simp only [baseS, eq_self, implies_true, if_true, if_false, reduceIte, Nat.reduceBEq, Nat.reduceEqDiff, Nat.reduceLT, Nat.reduceAdd, reduceCtorEq, tyInt, tdInt, c_impl_within]
  repeat (refine And.intro ?_ ?_; focus (first | exact ordP (by kernel_rfl) | with_reducible exact rfl | assumption | trivial | (simp only [inR]; omega) | omega | (intro hh; (try obtain ⟨hh1, hh2⟩ := hh); (repeat' apply And.intro) <;> first | assumption | (simp only [inR]; omega) | omega | (intros; (repeat' apply And.intro) <;> first | assumption | (simp only [inR]; omega) | omega)) | (intros; (repeat' apply And.intro) <;> first | assumption | (simp only [inR]; omega) | omega | (simp_all; done) | (simp_all [inR]; omega))))
  refine hK1 _ ?_
  clear hK1
  refine W_seq (fun K2 hK2 => ?_)
  refine W_region hT hG [] [2] ?_
  rw [hnt]
  simp only [baseS, eq_self, implies_true, if_true, if_false, reduceIte, Nat.reduceBEq, Nat.reduceEqDiff, Nat.reduceLT, Nat.reduceAdd, reduceCtorEq, tyInt, tdInt, c_impl_within]
  repeat (refine And.intro ?_ ?_; focus (first | exact ordP (by kernel_rfl) | with_reducible exact rfl | assumption | trivial | (simp only [inR]; omega) | omega | (intro hh; (try obtain ⟨hh1, hh2⟩ := hh); (repeat' apply And.intro) <;> first | assumption | (simp only [inR]; omega) | omega | (intros; (repeat' apply And.intro) <;> first | assumption | (simp only [inR]; omega) | omega)) | (intros; (repeat' apply And.intro) <;> first | assumption | (simp only [inR]; omega) | omega | (simp_all; done) | (simp_all [inR]; omega))))
  refine hK2 _ ?_
  clear hK2
  refine W_ret ?_
  simp only [thenQ, blockQ, loopQ, retQ, reduceIte, Nat.reduceEqDiff]
  refine ret0 ?_ rfl rfl (.inr rfl) rfl
  simp only [show Try.f148.results.toList = [ResultVar.tmp 2] from rfl, resAV, resL, look, Nat.reduceEqDiff, reduceIte, tyHull, tdHull, applyUps, noH, isStr, List.length_cons, List.length_nil, Nat.reduceAdd, and_self]
  all_goals (
    first | rfl | (simp_all; done))

def c_impl_BoxValid : Ctr where
  modes := [.v .p]
  al := false
  run := fun xs os => match xs, os with
    | [.agg [.int a, .int b, .int c, .int d, .bool e]], [] => some ⟨True, .bool (boxV a b c d), [], []⟩
    | _, _ => none
theorem m_impl_BoxValid : Meets Try.prog 126 c_impl_BoxValid := by
  refine meets_of (T := tyT) tyOK Try.func126 (by rfl) rfl (by decide) ?_
  intro args owns R hrun hpre
  simp only [c_impl_BoxValid] at hrun
  split at hrun
  case h_2 => cases hrun
  rename_i a b c d e
  cases hrun
  try dsimp only at hpre
  refine ⟨_, rfl, fun E hP hnt hnp => ?_⟩
  replace hnt : E.nt = 21 := hnt
  replace hnp : E.np = 1 := hnp
  have hT : ∀ t d, tyT t = some d → TyOK E.P t d := hP ▸ tyOK
  have hG : ∀ f C, Γof [(62, c_impl_within), (148, c_impl_isId)] f = some C → Meets E.P f C := hΓof (by rw [hP]; exact ⟨m_impl_within, m_impl_isId, trivial⟩)
  try simp only [show Try.f126.ntmps = 21 from rfl]
  refine W_seq (fun K1 hK1 => ?_)
  refine W_region hT hG [] [1] ?_
  rw [hnt]
  simp only [baseS, eq_self, implies_true, if_true, if_false, reduceIte, Nat.reduceBEq, Nat.reduceEqDiff, Nat.reduceLT, Nat.reduceAdd, reduceCtorEq, tyInt, tdInt, tyBox, tdBox, c_impl_within, c_impl_isId]
  repeat (refine And.intro ?_ ?_; focus (first | exact ordP (by kernel_rfl) | with_reducible exact rfl | assumption | trivial | (simp only [inR]; omega) | omega | (intro hh; (try obtain ⟨hh1, hh2⟩ := hh); (repeat' apply And.intro) <;> first | assumption | (simp only [inR]; omega) | omega | (intros; (repeat' apply And.intro) <;> first | assumption | (simp only [inR]; omega) | omega)) | (intros; (repeat' apply And.intro) <;> first | assumption | (simp only [inR]; omega) | omega | (simp_all; done) | (simp_all [inR]; omega))))
  refine hK1 _ ?_
  clear hK1
  refine W_seq (fun K2 hK2 => ?_)
  refine W_region hT hG [] [2] ?_
  rw [hnt]
  simp only [baseS, eq_self, implies_true, if_true, if_false, reduceIte, Nat.reduceBEq, Nat.reduceEqDiff, Nat.reduceLT, Nat.reduceAdd, reduceCtorEq, tyInt, tdInt, tyBox, tdBox, c_impl_within, c_impl_isId]
  repeat (refine And.intro ?_ ?_; focus (first | exact ordP (by kernel_rfl) | with_reducible exact rfl | assumption | trivial | (simp only [inR]; omega) | omega | (intro hh; (try obtain ⟨hh1, hh2⟩ := hh); (repeat' apply And.intro) <;> first | assumption | (simp only [inR]; omega) | omega | (intros; (repeat' apply And.intro) <;> first | assumption | (simp only [inR]; omega) | omega)) | (intros; (repeat' apply And.intro) <;> first | assumption | (simp only [inR]; omega) | omega | (simp_all; done) | (simp_all [inR]; omega))))
  refine hK2 _ ?_
  clear hK2
  refine W_ret ?_
  simp only [thenQ, blockQ, loopQ, retQ, reduceIte, Nat.reduceEqDiff]
  refine ret0 ?_ rfl rfl (.inr rfl) rfl
  simp only [show Try.f126.results.toList = [ResultVar.tmp 2] from rfl, resAV, resL, look, Nat.reduceEqDiff, reduceIte, tyHull, tdHull, applyUps, noH, isStr, List.length_cons, List.length_nil, Nat.reduceAdd, and_self]
  all_goals (
    simp only [boxV, Bool.and_assoc])

def c_spec_BoxValid : Ctr where
  modes := [.v .p]
  al := false
  run := fun xs os => match xs, os with
    | [.agg [.int a, .int b, .int c, .int d, .bool e]], [] => some ⟨True, .bool (boxV a b c d), [], []⟩
    | _, _ => none
theorem m_spec_BoxValid : Meets Try.prog 122 c_spec_BoxValid := by
  refine meets_of (T := tyT) tyOK Try.func122 (by rfl) rfl (by decide) ?_
  intro args owns R hrun hpre
  simp only [c_spec_BoxValid] at hrun
  split at hrun
  case h_2 => cases hrun
  rename_i a b c d e
  cases hrun
  try dsimp only at hpre
  refine ⟨_, rfl, fun E hP hnt hnp => ?_⟩
  replace hnt : E.nt = 21 := hnt
  replace hnp : E.np = 1 := hnp
  have hT : ∀ t d, tyT t = some d → TyOK E.P t d := hP ▸ tyOK
  have hG : ∀ f C, Γof [(66, c_spec_l1In)] f = some C → Meets E.P f C := hΓof (by rw [hP]; exact ⟨m_spec_l1In, trivial⟩)
  try simp only [show Try.f122.ntmps = 21 from rfl]
  refine W_seq (fun K1 hK1 => ?_)
  refine W_region hT hG [] [1] ?_
  rw [hnt]
  simp only [baseS, eq_self, implies_true, if_true, if_false, reduceIte, Nat.reduceBEq, Nat.reduceEqDiff, Nat.reduceLT, Nat.reduceAdd, reduceCtorEq, tyInt, tdInt, tyBox, tdBox, c_spec_l1In]
  repeat (refine And.intro ?_ ?_; focus (first | exact ordP (by kernel_rfl) | with_reducible exact rfl | assumption | trivial | (simp only [inR]; omega) | omega | (intro hh; (try obtain ⟨hh1, hh2⟩ := hh); (repeat' apply And.intro) <;> first | assumption | (simp only [inR]; omega) | omega | (intros; (repeat' apply And.intro) <;> first | assumption | (simp only [inR]; omega) | omega)) | (intros; (repeat' apply And.intro) <;> first | assumption | (simp only [inR]; omega) | omega | (simp_all; done) | (simp_all [inR]; omega))))
  refine hK1 _ ?_
  clear hK1
  refine W_seq (fun K2 hK2 => ?_)
  refine W_region hT hG [] [2] ?_
  rw [hnt]
  simp only [baseS, eq_self, implies_true, if_true, if_false, reduceIte, Nat.reduceBEq, Nat.reduceEqDiff, Nat.reduceLT, Nat.reduceAdd, reduceCtorEq, tyInt, tdInt, tyBox, tdBox, c_spec_l1In]
  repeat (refine And.intro ?_ ?_; focus (first | exact ordP (by kernel_rfl) | with_reducible exact rfl | assumption | trivial | (simp only [inR]; omega) | omega | (intro hh; (try obtain ⟨hh1, hh2⟩ := hh); (repeat' apply And.intro) <;> first | assumption | (simp only [inR]; omega) | omega | (intros; (repeat' apply And.intro) <;> first | assumption | (simp only [inR]; omega) | omega)) | (intros; (repeat' apply And.intro) <;> first | assumption | (simp only [inR]; omega) | omega | (simp_all; done) | (simp_all [inR]; omega))))
  refine hK2 _ ?_
  clear hK2
  refine W_ret ?_
  simp only [thenQ, blockQ, loopQ, retQ, reduceIte, Nat.reduceEqDiff]
  refine ret0 ?_ rfl rfl (.inr rfl) rfl
  simp only [show Try.f122.results.toList = [ResultVar.tmp 2] from rfl, resAV, resL, look, Nat.reduceEqDiff, reduceIte, tyHull, tdHull, applyUps, noH, isStr, List.length_cons, List.length_nil, Nat.reduceAdd, and_self]
  all_goals (
    simp only [boxV, Bool.and_assoc])

def c_impl_boxAt_1 : Ctr where
  modes := [.v .p, .v .p]
  al := false
  run := fun xs os => match xs, os with
    | [.agg [.int a, .int b, .int c, .int d, .bool e], .rp [.int n]], [] => some ⟨True, .bool (decide (a = n)), [], []⟩
    | _, _ => none
theorem m_impl_boxAt_1 : Meets Try.prog 128 c_impl_boxAt_1 := by
  refine meets_of (T := tyT) tyOK Try.func128 (by rfl) rfl (by decide) ?_
  intro args owns R hrun hpre
  simp only [c_impl_boxAt_1] at hrun
  split at hrun
  case h_2 => cases hrun
  rename_i a b c d e n
  cases hrun
  try dsimp only at hpre
  refine ⟨_, rfl, fun E hP hnt hnp => ?_⟩
  replace hnt : E.nt = 8 := hnt
  replace hnp : E.np = 2 := hnp
  have hT : ∀ t d, tyT t = some d → TyOK E.P t d := hP ▸ tyOK
  have hG : ∀ f C, Γof [] f = some C → Meets E.P f C := hΓof (by rw [hP]; exact trivial)
  try simp only [show Try.f128.ntmps = 8 from rfl]
  refine W_seq (fun K1 hK1 => ?_)
  refine W_region hT hG [] [1, 2] ?_
  rw [hnt]
  simp only [baseS, eq_self, implies_true, if_true, if_false, reduceIte, Nat.reduceBEq, Nat.reduceEqDiff, Nat.reduceLT, Nat.reduceAdd, reduceCtorEq, tyInt, tdInt, tyBox, tdBox]
  repeat (refine And.intro ?_ ?_; focus (first | exact ordP (by kernel_rfl) | with_reducible exact rfl | assumption | trivial | (simp only [inR]; omega) | omega | (intro hh; (try obtain ⟨hh1, hh2⟩ := hh); (repeat' apply And.intro) <;> first | assumption | (simp only [inR]; omega) | omega | (intros; (repeat' apply And.intro) <;> first | assumption | (simp only [inR]; omega) | omega)) | (intros; (repeat' apply And.intro) <;> first | assumption | (simp only [inR]; omega) | omega | (simp_all; done) | (simp_all [inR]; omega))))
  refine hK1 _ ?_
  clear hK1
  refine W_seq (fun K2 hK2 => ?_)
  refine W_region hT hG [] [3] ?_
  rw [hnt]
  simp only [baseS, eq_self, implies_true, if_true, if_false, reduceIte, Nat.reduceBEq, Nat.reduceEqDiff, Nat.reduceLT, Nat.reduceAdd, reduceCtorEq, tyInt, tdInt, tyBox, tdBox]
  repeat (refine And.intro ?_ ?_; focus (first | exact ordP (by kernel_rfl) | with_reducible exact rfl | assumption | trivial | (simp only [inR]; omega) | omega | (intro hh; (try obtain ⟨hh1, hh2⟩ := hh); (repeat' apply And.intro) <;> first | assumption | (simp only [inR]; omega) | omega | (intros; (repeat' apply And.intro) <;> first | assumption | (simp only [inR]; omega) | omega)) | (intros; (repeat' apply And.intro) <;> first | assumption | (simp only [inR]; omega) | omega | (simp_all; done) | (simp_all [inR]; omega))))
  refine hK2 _ ?_
  clear hK2
  refine W_ret ?_
  simp only [thenQ, blockQ, loopQ, retQ, reduceIte, Nat.reduceEqDiff]
  refine ret0 ?_ rfl rfl (.inr rfl) rfl
  simp only [show Try.f128.results.toList = [ResultVar.tmp 3] from rfl, resAV, resL, look, Nat.reduceEqDiff, reduceIte, tyHull, tdHull, applyUps, noH, isStr, List.length_cons, List.length_nil, Nat.reduceAdd, and_self]
  all_goals (
    first | rfl | (simp_all; done))

def c_slices_IndexFunc_impl_Box_impl_Box : Ctr where
  modes := [.v (.r .box), .v .p]
  al := false
  run := fun xs os => match xs, os with
    | [.rs .box bs, .clo 128 [.rp [.int n]]], [] => some ⟨bs.length ≤ 9223372036854775807, .int (findF bs n 0), [], []⟩
    | _, _ => none
theorem m_slices_IndexFunc_impl_Box_impl_Box : Meets Try.prog 127 c_slices_IndexFunc_impl_Box_impl_Box := by
  refine meets_of (T := tyT) tyOK Try.func127 (by rfl) rfl (by decide) ?_
  intro args owns R hrun hpre
  simp only [c_slices_IndexFunc_impl_Box_impl_Box] at hrun
  split at hrun
  case h_2 => cases hrun
  rename_i bs n
  cases hrun
  try dsimp only at hpre
  refine ⟨_, rfl, fun E hP hnt hnp => ?_⟩
  replace hnt : E.nt = 19 := hnt
  replace hnp : E.np = 2 := hnp
  have hT : ∀ t d, tyT t = some d → TyOK E.P t d := hP ▸ tyOK
  have hG : ∀ f C, Γof [(128, c_impl_boxAt_1)] f = some C → Meets E.P f C := hΓof (by rw [hP]; exact ⟨m_impl_boxAt_1, trivial⟩)
  try simp only [show Try.f127.ntmps = 19 from rfl]
  refine W_seq (fun K1 hK1 => ?_)
  refine W_region hT hG [] [0, 1] ?_
  rw [hnt]
  simp only [baseS, eq_self, implies_true, if_true, if_false, reduceIte, Nat.reduceBEq, Nat.reduceEqDiff, Nat.reduceLT, Nat.reduceAdd, reduceCtorEq, tyInt, tdInt, tyBoxes, tdBoxes, tyBox, tdBox, c_impl_boxAt_1]
  repeat (refine And.intro ?_ ?_; focus (first | exact ordP (by kernel_rfl) | with_reducible exact rfl | assumption | trivial | (simp only [inR]; omega) | omega | (intro hh; (try obtain ⟨hh1, hh2⟩ := hh); (repeat' apply And.intro) <;> first | assumption | (simp only [inR]; omega) | omega | (intros; (repeat' apply And.intro) <;> first | assumption | (simp only [inR]; omega) | omega)) | (intros; (repeat' apply And.intro) <;> first | assumption | (simp only [inR]; omega) | omega | (simp_all; done) | (simp_all [inR]; omega))))
  refine hK1 _ ?_
  clear hK1
  refine W_seq (fun K2 hK2 => ?_)
  refine W_seq (fun K3 hK3 => ?_)
  refine W_region hT hG [] [0, 1, 7, 8] ?_
  rw [hnt]
  simp only [baseS, eq_self, implies_true, if_true, if_false, reduceIte, Nat.reduceBEq, Nat.reduceEqDiff, Nat.reduceLT, Nat.reduceAdd, reduceCtorEq, tyInt, tdInt, tyBoxes, tdBoxes, tyBox, tdBox, c_impl_boxAt_1]
  repeat (refine And.intro ?_ ?_; focus (first | exact ordP (by kernel_rfl) | with_reducible exact rfl | assumption | trivial | (simp only [inR]; omega) | omega | (intro hh; (try obtain ⟨hh1, hh2⟩ := hh); (repeat' apply And.intro) <;> first | assumption | (simp only [inR]; omega) | omega | (intros; (repeat' apply And.intro) <;> first | assumption | (simp only [inR]; omega) | omega)) | (intros; (repeat' apply And.intro) <;> first | assumption | (simp only [inR]; omega) | omega | (simp_all; done) | (simp_all [inR]; omega))))
  refine hK3 _ ?_
  clear hK3
  refine W_block ?_
  refine W_loop (α := Int) [(0, .as), (1, .as), (7, .as), (8, .as)] (fun i => ⟨[(0, .rs .box bs), (1, .clo 128 [.rp [.int n]]), (7, .int bs.length), (8, .int i)], [], 19⟩) (fun i => 0 ≤ i ∧ i ≤ bs.length ∧ findF (bs.drop i.toNat) n i = findF bs n 0) (fun i => (bs.length - i).toNat) 0 ?_ ?_ ?_
  · (try simp only [hnt, hnp]); rfl
  · exact ⟨by omega, by omega, by simp⟩
  rintro i ⟨hi0, hi1, hI⟩
  refine W_seq (fun K5 hK5 => ?_)
  refine W_region hT hG [] [0, 1, 7, 8, 9] ?_
  rw [hnt]
  simp only [baseS, eq_self, implies_true, if_true, if_false, reduceIte, Nat.reduceBEq, Nat.reduceEqDiff, Nat.reduceLT, Nat.reduceAdd, reduceCtorEq, tyInt, tdInt, tyBoxes, tdBoxes, tyBox, tdBox, c_impl_boxAt_1]
  repeat (refine And.intro ?_ ?_; focus (first | exact ordP (by kernel_rfl) | with_reducible exact rfl | assumption | trivial | (simp only [inR]; omega) | omega | (intro hh; (try obtain ⟨hh1, hh2⟩ := hh); (repeat' apply And.intro) <;> first | assumption | (simp only [inR]; omega) | omega | (intros; (repeat' apply And.intro) <;> first | assumption | (simp only [inR]; omega) | omega)) | (intros; (repeat' apply And.intro) <;> first | assumption | (simp only [inR]; omega) | omega | (simp_all; done) | (simp_all [inR]; omega))))
  refine hK5 _ ?_
  clear hK5
  refine W_seq (fun K6 hK6 => ?_)
  refine W_cond (b := _) rfl (fun hc7 => ?_) (fun hc7 => ?_)
  · try simp only [decide_eq_true_eq, decide_eq_false_iff_not, ne_eq, Decidable.not_not, Bool.not_eq_true', Bool.not_eq_false', Bool.or_eq_true, Bool.and_eq_true, Bool.or_eq_false_iff, Bool.and_eq_false_iff] at hc7
    refine W_skip ?_
    simp only [thenQ, blockQ, loopQ, reduceIte, Nat.reduceEqDiff]
    refine hK6 _ ?_
    clear hK6
    refine W_seq (fun K8 hK8 => ?_)
    refine W_block ?_
    refine W_seq (fun K9 hK9 => ?_)
    refine W_region hT hG [] [0, 1, 5, 7, 8] ?_
    rw [hnt]
    simp only [baseS, eq_self, implies_true, if_true, if_false, reduceIte, Nat.reduceBEq, Nat.reduceEqDiff, Nat.reduceLT, Nat.reduceAdd, reduceCtorEq, tyInt, tdInt, tyBoxes, tdBoxes, tyBox, tdBox, c_impl_boxAt_1]
    repeat (refine And.intro ?_ ?_; focus (first | exact ordP (by kernel_rfl) | with_reducible exact rfl | assumption | trivial | (simp only [inR]; omega) | omega | (intro hh; (try obtain ⟨hh1, hh2⟩ := hh); (repeat' apply And.intro) <;> first | assumption | (simp only [inR]; omega) | omega | (intros; (repeat' apply And.intro) <;> first | assumption | (simp only [inR]; omega) | omega)) | (intros; (repeat' apply And.intro) <;> first | assumption | (simp only [inR]; omega) | omega | (simp_all; done) | (simp_all [inR]; omega))))
    refine hK9 _ ?_
    clear hK9
    refine W_seq (fun K10 hK10 => ?_)
    refine W_region hT hG [] [0, 1, 5, 7, 8, 16] ?_
    rw [hnt]
    simp only [baseS, eq_self, implies_true, if_true, if_false, reduceIte, Nat.reduceBEq, Nat.reduceEqDiff, Nat.reduceLT, Nat.reduceAdd, reduceCtorEq, tyInt, tdInt, tyBoxes, tdBoxes, tyBox, tdBox, c_impl_boxAt_1]
    repeat (refine And.intro ?_ ?_; focus (first | exact ordP (by kernel_rfl) | with_reducible exact rfl | assumption | trivial | (simp only [inR]; omega) | omega | (intro hh; (try obtain ⟨hh1, hh2⟩ := hh); (repeat' apply And.intro) <;> first | assumption | (simp only [inR]; omega) | omega | (intros; (repeat' apply And.intro) <;> first | assumption | (simp only [inR]; omega) | omega)) | (intros; (repeat' apply And.intro) <;> first | assumption | (simp only [inR]; omega) | omega | (simp_all; done) | (simp_all [inR]; omega))))
    refine hK10 _ ?_
    clear hK10
    refine W_cond (b := _) rfl (fun hc11 => ?_) (fun hc11 => ?_)
    · try simp only [decide_eq_true_eq, decide_eq_false_iff_not, ne_eq, Decidable.not_not, Bool.not_eq_true', Bool.not_eq_false', Bool.or_eq_true, Bool.and_eq_true, Bool.or_eq_false_iff, Bool.and_eq_false_iff] at hc11
      refine W_seq (fun K12 hK12 => ?_)
      refine W_region hT hG [] [4] ?_
      rw [hnt]
      simp only [baseS, eq_self, implies_true, if_true, if_false, reduceIte, Nat.reduceBEq, Nat.reduceEqDiff, Nat.reduceLT, Nat.reduceAdd, reduceCtorEq, tyInt, tdInt, tyBoxes, tdBoxes, tyBox, tdBox, c_impl_boxAt_1]
      repeat (refine And.intro ?_ ?_; focus (first | exact ordP (by kernel_rfl) | with_reducible exact rfl | assumption | trivial | (simp only [inR]; omega) | omega | (intro hh; (try obtain ⟨hh1, hh2⟩ := hh); (repeat' apply And.intro) <;> first | assumption | (simp only [inR]; omega) | omega | (intros; (repeat' apply And.intro) <;> first | assumption | (simp only [inR]; omega) | omega)) | (intros; (repeat' apply And.intro) <;> first | assumption | (simp only [inR]; omega) | omega | (simp_all; done) | (simp_all [inR]; omega))))
      refine hK12 _ ?_
      clear hK12
      refine W_ret ?_
      simp only [thenQ, blockQ, loopQ, retQ, reduceIte, Nat.reduceEqDiff]
      refine ret0 ?_ rfl rfl (.inr rfl) rfl
      simp only [show Try.f127.results.toList = [ResultVar.tmp 4] from rfl, resAV, resL, look, Nat.reduceEqDiff, reduceIte, tyHull, tdHull, applyUps, noH, isStr, List.length_cons, List.length_nil, Nat.reduceAdd, and_self]
      all_goals (
        refine congrArg (fun x => some (AV.int x)) ?_
        first | (rw [findF_end hc11] at hI; exact hI) | (rw [findF_step hi0 hc7, if_pos hc11] at hI; exact hI))
    · try simp only [decide_eq_true_eq, decide_eq_false_iff_not, ne_eq, Decidable.not_not, Bool.not_eq_true', Bool.not_eq_false', Bool.or_eq_true, Bool.and_eq_true, Bool.or_eq_false_iff, Bool.and_eq_false_iff] at hc11
      refine W_skip ?_
      simp only [thenQ, blockQ, loopQ, reduceIte, Nat.reduceEqDiff]
      refine hK8 _ ?_
      clear hK8
      refine W_region hT hG [] [0, 1, 7, 8] ?_
      rw [hnt]
      simp only [baseS, eq_self, implies_true, if_true, if_false, reduceIte, Nat.reduceBEq, Nat.reduceEqDiff, Nat.reduceLT, Nat.reduceAdd, reduceCtorEq, tyInt, tdInt, tyBoxes, tdBoxes, tyBox, tdBox, c_impl_boxAt_1]
      repeat (refine And.intro ?_ ?_; focus (first | exact ordP (by kernel_rfl) | with_reducible exact rfl | assumption | trivial | (simp only [inR]; omega) | omega | (intro hh; (try obtain ⟨hh1, hh2⟩ := hh); (repeat' apply And.intro) <;> first | assumption | (simp only [inR]; omega) | omega | (intros; (repeat' apply And.intro) <;> first | assumption | (simp only [inR]; omega) | omega)) | (intros; (repeat' apply And.intro) <;> first | assumption | (simp only [inR]; omega) | omega | (simp_all; done) | (simp_all [inR]; omega))))
      refine ⟨i + 1, (by (try simp only [hnt, hnp]); rfl), ⟨by omega, by omega, by rw [findF_step hi0 hc7, if_neg hc11] at hI; exact hI⟩, by dsimp only; omega⟩
  · try simp only [decide_eq_true_eq, decide_eq_false_iff_not, ne_eq, Decidable.not_not, Bool.not_eq_true', Bool.not_eq_false', Bool.or_eq_true, Bool.and_eq_true, Bool.or_eq_false_iff, Bool.and_eq_false_iff] at hc7
    refine W_exit ?_
    simp only [thenQ, blockQ, loopQ, reduceIte, Nat.reduceEqDiff]
    refine hK2 _ ?_
    clear hK2
    refine W_seq (fun K13 hK13 => ?_)
    refine W_region hT hG [] [4] ?_
    rw [hnt]
    simp only [baseS, eq_self, implies_true, if_true, if_false, reduceIte, Nat.reduceBEq, Nat.reduceEqDiff, Nat.reduceLT, Nat.reduceAdd, reduceCtorEq, tyInt, tdInt, tyBoxes, tdBoxes, tyBox, tdBox, c_impl_boxAt_1]
    repeat (refine And.intro ?_ ?_; focus (first | exact ordP (by kernel_rfl) | with_reducible exact rfl | assumption | trivial | (simp only [inR]; omega) | omega | (intro hh; (try obtain ⟨hh1, hh2⟩ := hh); (repeat' apply And.intro) <;> first | assumption | (simp only [inR]; omega) | omega | (intros; (repeat' apply And.intro) <;> first | assumption | (simp only [inR]; omega) | omega)) | (intros; (repeat' apply And.intro) <;> first | assumption | (simp only [inR]; omega) | omega | (simp_all; done) | (simp_all [inR]; omega))))
    refine hK13 _ ?_
    clear hK13
    refine W_ret ?_
    simp only [thenQ, blockQ, loopQ, retQ, reduceIte, Nat.reduceEqDiff]
    refine ret0 ?_ rfl rfl (.inr rfl) rfl
    simp only [show Try.f127.results.toList = [ResultVar.tmp 4] from rfl, resAV, resL, look, Nat.reduceEqDiff, reduceIte, tyHull, tdHull, applyUps, noH, isStr, List.length_cons, List.length_nil, Nat.reduceAdd, and_self]
    all_goals (
      refine congrArg (fun x => some (AV.int x)) ?_
      first | (rw [findF_end hc7] at hI; exact hI) | (rw [findF_step hi0 HCPREV, if_pos hc7] at hI; exact hI))

def c_impl_boxAt : Ctr where
  modes := [.v (.r .box), .v .p]
  al := false
  run := fun xs os => match xs, os with
    | [.rs .box bs, .int n], [] => some ⟨bs.length ≤ 9223372036854775807, .int (findF bs n 0), [], []⟩
    | _, _ => none
theorem m_impl_boxAt : Meets Try.prog 98 c_impl_boxAt := by
  refine meets_of (T := tyT) tyOK Try.func98 (by rfl) rfl (by decide) ?_
  intro args owns R hrun hpre
  simp only [c_impl_boxAt] at hrun
  split at hrun
  case h_2 => cases hrun
  rename_i bs n
  cases hrun
  try dsimp only at hpre
  refine ⟨_, rfl, fun E hP hnt hnp => ?_⟩
  replace hnt : E.nt = 8 := hnt
  replace hnp : E.np = 2 := hnp
  have hT : ∀ t d, tyT t = some d → TyOK E.P t d := hP ▸ tyOK
  have hG : ∀ f C, Γof [(127, c_slices_IndexFunc_impl_Box_impl_Box)] f = some C → Meets E.P f C := hΓof (by rw [hP]; exact ⟨m_slices_IndexFunc_impl_Box_impl_Box, trivial⟩)
  try simp only [show Try.f98.ntmps = 8 from rfl]
  refine W_seq (fun K1 hK1 => ?_)
  refine W_region hT hG [] [0, 3] ?_
  rw [hnt]
  simp only [baseS, eq_self, implies_true, if_true, if_false, reduceIte, Nat.reduceBEq, Nat.reduceEqDiff, Nat.reduceLT, Nat.reduceAdd, reduceCtorEq, tyInt, tdInt, tyBoxes, tdBoxes, c_slices_IndexFunc_impl_Box_impl_Box]
  repeat (refine And.intro ?_ ?_; focus (first | exact ordP (by kernel_rfl) | with_reducible exact rfl | assumption | trivial | (simp only [inR]; omega) | omega | (intro hh; (try obtain ⟨hh1, hh2⟩ := hh); (repeat' apply And.intro) <;> first | assumption | (simp only [inR]; omega) | omega | (intros; (repeat' apply And.intro) <;> first | assumption | (simp only [inR]; omega) | omega)) | (intros; (repeat' apply And.intro) <;> first | assumption | (simp only [inR]; omega) | omega | (simp_all; done) | (simp_all [inR]; omega))))
  refine hK1 _ ?_
  clear hK1
  refine W_seq (fun K2 hK2 => ?_)
  refine W_region hT hG [] [4] ?_
  rw [hnt]
  simp only [baseS, eq_self, implies_true, if_true, if_false, reduceIte, Nat.reduceBEq, Nat.reduceEqDiff, Nat.reduceLT, Nat.reduceAdd, reduceCtorEq, tyInt, tdInt, tyBoxes, tdBoxes, c_slices_IndexFunc_impl_Box_impl_Box]
  repeat (refine And.intro ?_ ?_; focus (first | exact ordP (by kernel_rfl) | with_reducible exact rfl | assumption | trivial | (simp only [inR]; omega) | omega | (intro hh; (try obtain ⟨hh1, hh2⟩ := hh); (repeat' apply And.intro) <;> first | assumption | (simp only [inR]; omega) | omega | (intros; (repeat' apply And.intro) <;> first | assumption | (simp only [inR]; omega) | omega)) | (intros; (repeat' apply And.intro) <;> first | assumption | (simp only [inR]; omega) | omega | (simp_all; done) | (simp_all [inR]; omega))))
  refine hK2 _ ?_
  clear hK2
  refine W_ret ?_
  simp only [thenQ, blockQ, loopQ, retQ, reduceIte, Nat.reduceEqDiff]
  refine ret0 ?_ rfl rfl (.inr rfl) rfl
  simp only [show Try.f98.results.toList = [ResultVar.tmp 4] from rfl, resAV, resL, look, Nat.reduceEqDiff, reduceIte, tyHull, tdHull, applyUps, noH, isStr, List.length_cons, List.length_nil, Nat.reduceAdd, and_self]
  all_goals (
    first | rfl | (simp_all; done))

def c_spec_l2Find : Ctr where
  modes := [.v (.r .box), .v .p]
  al := false
  run := fun xs os => match xs, os with
    | [.rs .box bs, .int n], [] => some ⟨bs.length ≤ 9223372036854775807, .int (findF bs n 0), [], []⟩
    | _, _ => none
theorem m_spec_l2Find : Meets Try.prog 85 c_spec_l2Find := by
  refine meets_of (T := tyT) tyOK Try.func85 (by rfl) rfl (by decide) ?_
  intro args owns R hrun hpre
  simp only [c_spec_l2Find] at hrun
  split at hrun
  case h_2 => cases hrun
  rename_i bs n
  cases hrun
  try dsimp only at hpre
  refine ⟨_, rfl, fun E hP hnt hnp => ?_⟩
  replace hnt : E.nt = 20 := hnt
  replace hnp : E.np = 2 := hnp
  have hT : ∀ t d, tyT t = some d → TyOK E.P t d := hP ▸ tyOK
  have hG : ∀ f C, Γof [] f = some C → Meets E.P f C := hΓof (by rw [hP]; exact trivial)
  try simp only [show Try.f85.ntmps = 20 from rfl]
  refine W_seq (fun K1 hK1 => ?_)
  refine W_region hT hG [] [0, 1] ?_
  rw [hnt]
  simp only [baseS, eq_self, implies_true, if_true, if_false, reduceIte, Nat.reduceBEq, Nat.reduceEqDiff, Nat.reduceLT, Nat.reduceAdd, reduceCtorEq, tyInt, tdInt, tyBoxes, tdBoxes, tyBox, tdBox]
  repeat (refine And.intro ?_ ?_; focus (first | exact ordP (by kernel_rfl) | with_reducible exact rfl | assumption | trivial | (simp only [inR]; omega) | omega | (intro hh; (try obtain ⟨hh1, hh2⟩ := hh); (repeat' apply And.intro) <;> first | assumption | (simp only [inR]; omega) | omega | (intros; (repeat' apply And.intro) <;> first | assumption | (simp only [inR]; omega) | omega)) | (intros; (repeat' apply And.intro) <;> first | assumption | (simp only [inR]; omega) | omega | (simp_all; done) | (simp_all [inR]; omega))))
  refine hK1 _ ?_
  clear hK1
  refine W_seq (fun K2 hK2 => ?_)
  refine W_seq (fun K3 hK3 => ?_)
  refine W_region hT hG [] [0, 1, 5] ?_
  rw [hnt]
  simp only [baseS, eq_self, implies_true, if_true, if_false, reduceIte, Nat.reduceBEq, Nat.reduceEqDiff, Nat.reduceLT, Nat.reduceAdd, reduceCtorEq, tyInt, tdInt, tyBoxes, tdBoxes, tyBox, tdBox]
  repeat (refine And.intro ?_ ?_; focus (first | exact ordP (by kernel_rfl) | with_reducible exact rfl | assumption | trivial | (simp only [inR]; omega) | omega | (intro hh; (try obtain ⟨hh1, hh2⟩ := hh); (repeat' apply And.intro) <;> first | assumption | (simp only [inR]; omega) | omega | (intros; (repeat' apply And.intro) <;> first | assumption | (simp only [inR]; omega) | omega)) | (intros; (repeat' apply And.intro) <;> first | assumption | (simp only [inR]; omega) | omega | (simp_all; done) | (simp_all [inR]; omega))))
  refine hK3 _ ?_
  clear hK3
  refine W_block ?_
  refine W_loop (α := Int) [(0, .as), (1, .as), (5, .as)] (fun i => ⟨[(0, .rs .box bs), (1, .int n), (5, .int i)], [], 20⟩) (fun i => 0 ≤ i ∧ i ≤ bs.length ∧ findF (bs.drop i.toNat) n i = findF bs n 0) (fun i => (bs.length - i).toNat) 0 ?_ ?_ ?_
  · (try simp only [hnt, hnp]); rfl
  · exact ⟨by omega, by omega, by simp⟩
  rintro i ⟨hi0, hi1, hI⟩
  refine W_seq (fun K5 hK5 => ?_)
  refine W_seq (fun K6 hK6 => ?_)
  refine W_region hT hG [] [0, 1, 5, 9] ?_
  rw [hnt]
  simp only [baseS, eq_self, implies_true, if_true, if_false, reduceIte, Nat.reduceBEq, Nat.reduceEqDiff, Nat.reduceLT, Nat.reduceAdd, reduceCtorEq, tyInt, tdInt, tyBoxes, tdBoxes, tyBox, tdBox]
  repeat (refine And.intro ?_ ?_; focus (first | exact ordP (by kernel_rfl) | with_reducible exact rfl | assumption | trivial | (simp only [inR]; omega) | omega | (intro hh; (try obtain ⟨hh1, hh2⟩ := hh); (repeat' apply And.intro) <;> first | assumption | (simp only [inR]; omega) | omega | (intros; (repeat' apply And.intro) <;> first | assumption | (simp only [inR]; omega) | omega)) | (intros; (repeat' apply And.intro) <;> first | assumption | (simp only [inR]; omega) | omega | (simp_all; done) | (simp_all [inR]; omega))))
  refine hK6 _ ?_
  clear hK6
  refine W_cond (b := _) rfl (fun hc7 => ?_) (fun hc7 => ?_)
  · try simp only [decide_eq_true_eq, decide_eq_false_iff_not, ne_eq, Decidable.not_not, Bool.not_eq_true', Bool.not_eq_false', Bool.or_eq_true, Bool.and_eq_true, Bool.or_eq_false_iff, Bool.and_eq_false_iff] at hc7
    refine W_skip ?_
    simp only [thenQ, blockQ, loopQ, reduceIte, Nat.reduceEqDiff]
    refine hK5 _ ?_
    clear hK5
    refine W_seq (fun K8 hK8 => ?_)
    refine W_block ?_
    refine W_seq (fun K9 hK9 => ?_)
    refine W_region hT hG [] [0, 1, 5, 18] ?_
    rw [hnt]
    simp only [baseS, eq_self, implies_true, if_true, if_false, reduceIte, Nat.reduceBEq, Nat.reduceEqDiff, Nat.reduceLT, Nat.reduceAdd, reduceCtorEq, tyInt, tdInt, tyBoxes, tdBoxes, tyBox, tdBox]
    repeat (refine And.intro ?_ ?_; focus (first | exact ordP (by kernel_rfl) | with_reducible exact rfl | assumption | trivial | (simp only [inR]; omega) | omega | (intro hh; (try obtain ⟨hh1, hh2⟩ := hh); (repeat' apply And.intro) <;> first | assumption | (simp only [inR]; omega) | omega | (intros; (repeat' apply And.intro) <;> first | assumption | (simp only [inR]; omega) | omega)) | (intros; (repeat' apply And.intro) <;> first | assumption | (simp only [inR]; omega) | omega | (simp_all; done) | (simp_all [inR]; omega))))
    refine hK9 _ ?_
    clear hK9
    refine W_cond (b := _) rfl (fun hc10 => ?_) (fun hc10 => ?_)
    · try simp only [decide_eq_true_eq, decide_eq_false_iff_not, ne_eq, Decidable.not_not, Bool.not_eq_true', Bool.not_eq_false', Bool.or_eq_true, Bool.and_eq_true, Bool.or_eq_false_iff, Bool.and_eq_false_iff] at hc10
      refine W_seq (fun K11 hK11 => ?_)
      refine W_region hT hG [] [4] ?_
      rw [hnt]
      simp only [baseS, eq_self, implies_true, if_true, if_false, reduceIte, Nat.reduceBEq, Nat.reduceEqDiff, Nat.reduceLT, Nat.reduceAdd, reduceCtorEq, tyInt, tdInt, tyBoxes, tdBoxes, tyBox, tdBox]
      repeat (refine And.intro ?_ ?_; focus (first | exact ordP (by kernel_rfl) | with_reducible exact rfl | assumption | trivial | (simp only [inR]; omega) | omega | (intro hh; (try obtain ⟨hh1, hh2⟩ := hh); (repeat' apply And.intro) <;> first | assumption | (simp only [inR]; omega) | omega | (intros; (repeat' apply And.intro) <;> first | assumption | (simp only [inR]; omega) | omega)) | (intros; (repeat' apply And.intro) <;> first | assumption | (simp only [inR]; omega) | omega | (simp_all; done) | (simp_all [inR]; omega))))
      refine hK11 _ ?_
      clear hK11
      refine W_ret ?_
      simp only [thenQ, blockQ, loopQ, retQ, reduceIte, Nat.reduceEqDiff]
      refine ret0 ?_ rfl rfl (.inr rfl) rfl
      simp only [show Try.f85.results.toList = [ResultVar.tmp 4] from rfl, resAV, resL, look, Nat.reduceEqDiff, reduceIte, tyHull, tdHull, applyUps, noH, isStr, List.length_cons, List.length_nil, Nat.reduceAdd, and_self]
      all_goals (
        refine congrArg (fun x => some (AV.int x)) ?_
        first | (rw [findF_end hc10] at hI; exact hI) | (rw [findF_step hi0 hc7, if_pos hc10] at hI; exact hI))
    · try simp only [decide_eq_true_eq, decide_eq_false_iff_not, ne_eq, Decidable.not_not, Bool.not_eq_true', Bool.not_eq_false', Bool.or_eq_true, Bool.and_eq_true, Bool.or_eq_false_iff, Bool.and_eq_false_iff] at hc10
      refine W_skip ?_
      simp only [thenQ, blockQ, loopQ, reduceIte, Nat.reduceEqDiff]
      refine hK8 _ ?_
      clear hK8
      refine W_region hT hG [] [0, 1, 5] ?_
      rw [hnt]
      simp only [baseS, eq_self, implies_true, if_true, if_false, reduceIte, Nat.reduceBEq, Nat.reduceEqDiff, Nat.reduceLT, Nat.reduceAdd, reduceCtorEq, tyInt, tdInt, tyBoxes, tdBoxes, tyBox, tdBox]
      repeat (refine And.intro ?_ ?_; focus (first | exact ordP (by kernel_rfl) | with_reducible exact rfl | assumption | trivial | (simp only [inR]; omega) | omega | (intro hh; (try obtain ⟨hh1, hh2⟩ := hh); (repeat' apply And.intro) <;> first | assumption | (simp only [inR]; omega) | omega | (intros; (repeat' apply And.intro) <;> first | assumption | (simp only [inR]; omega) | omega)) | (intros; (repeat' apply And.intro) <;> first | assumption | (simp only [inR]; omega) | omega | (simp_all; done) | (simp_all [inR]; omega))))
      refine ⟨i + 1, (by (try simp only [hnt, hnp]); rfl), ⟨by omega, by omega, by rw [findF_step hi0 hc7, if_neg hc10] at hI; exact hI⟩, by dsimp only; omega⟩
  · try simp only [decide_eq_true_eq, decide_eq_false_iff_not, ne_eq, Decidable.not_not, Bool.not_eq_true', Bool.not_eq_false', Bool.or_eq_true, Bool.and_eq_true, Bool.or_eq_false_iff, Bool.and_eq_false_iff] at hc7
    refine W_exit ?_
    simp only [thenQ, blockQ, loopQ, reduceIte, Nat.reduceEqDiff]
    refine hK2 _ ?_
    clear hK2
    refine W_seq (fun K12 hK12 => ?_)
    refine W_region hT hG [] [4] ?_
    rw [hnt]
    simp only [baseS, eq_self, implies_true, if_true, if_false, reduceIte, Nat.reduceBEq, Nat.reduceEqDiff, Nat.reduceLT, Nat.reduceAdd, reduceCtorEq, tyInt, tdInt, tyBoxes, tdBoxes, tyBox, tdBox]
    repeat (refine And.intro ?_ ?_; focus (first | exact ordP (by kernel_rfl) | with_reducible exact rfl | assumption | trivial | (simp only [inR]; omega) | omega | (intro hh; (try obtain ⟨hh1, hh2⟩ := hh); (repeat' apply And.intro) <;> first | assumption | (simp only [inR]; omega) | omega | (intros; (repeat' apply And.intro) <;> first | assumption | (simp only [inR]; omega) | omega)) | (intros; (repeat' apply And.intro) <;> first | assumption | (simp only [inR]; omega) | omega | (simp_all; done) | (simp_all [inR]; omega))))
    refine hK12 _ ?_
    clear hK12
    refine W_ret ?_
    simp only [thenQ, blockQ, loopQ, retQ, reduceIte, Nat.reduceEqDiff]
    refine ret0 ?_ rfl rfl (.inr rfl) rfl
    simp only [show Try.f85.results.toList = [ResultVar.tmp 4] from rfl, resAV, resL, look, Nat.reduceEqDiff, reduceIte, tyHull, tdHull, applyUps, noH, isStr, List.length_cons, List.length_nil, Nat.reduceAdd, and_self]
    all_goals (
      refine congrArg (fun x => some (AV.int x)) ?_
      first | (rw [findF_end hc7] at hI; exact hI) | (rw [findF_step hi0 HCPREV, if_pos hc7] at hI; exact hI))

theorem bxOK_of {bs : List BoxD} {k : Nat} (h : boxB (bx bs k) = true ∧ findF (bs.take k) (bx bs k).id 0 < 0) : bxOK bs k = true := by
  simp only [bxOK, h.1, decide_eq_true h.2, Bool.and_self]
theorem bxOK_not {bs : List BoxD} {k : Nat} (h : boxB (bx bs k) = false ∨ 0 ≤ findF (bs.take k) (bx bs k).id 0) : bxOK bs k = false := by
  rcases h with h | h
  · simp only [bxOK, h, Bool.false_and]
  · simp only [bxOK, decide_eq_false (Int.not_lt.2 h), Bool.and_false]

def c_impl_BoxesValid : Ctr where
  modes := [.v (.r .box)]
  al := false
  run := fun xs os => match xs, os with
    | [.rs .box bs], [] => some ⟨bs.length ≤ 9223372036854775807, .bool (boxesB bs), [], []⟩
    | _, _ => none
theorem m_impl_BoxesValid : Meets Try.prog 97 c_impl_BoxesValid := by
  refine meets_of (T := tyT) tyOK Try.func97 (by rfl) rfl (by decide) ?_
  intro args owns R hrun hpre
  simp only [c_impl_BoxesValid] at hrun
  split at hrun
  case h_2 => cases hrun
  rename_i bs
  cases hrun
  try dsimp only at hpre
  refine ⟨_, rfl, fun E hP hnt hnp => ?_⟩
  replace hnt : E.nt = 28 := hnt
  replace hnp : E.np = 1 := hnp
  have hT : ∀ t d, tyT t = some d → TyOK E.P t d := hP ▸ tyOK
  have hG : ∀ f C, Γof [(98, c_impl_boxAt), (126, c_impl_BoxValid)] f = some C → Meets E.P f C := hΓof (by rw [hP]; exact ⟨m_impl_boxAt, m_impl_BoxValid, trivial⟩)
  try simp only [show Try.f97.ntmps = 28 from rfl]
  refine W_seq (fun K1 hK1 => ?_)
  refine W_region hT hG [4] [0] ?_
  rw [hnt]
  simp only [baseS, eq_self, implies_true, if_true, if_false, reduceIte, Nat.reduceBEq, Nat.reduceEqDiff, Nat.reduceLT, Nat.reduceAdd, reduceCtorEq, tyInt, tdInt, tyBoxes, tdBoxes, tyBox, tdBox, c_impl_boxAt, c_impl_BoxValid, storeAV, Value.cells, FT.of]
  repeat (refine And.intro ?_ ?_; focus (first | exact ordP (by kernel_rfl) | with_reducible exact rfl | assumption | trivial | (simp only [inR]; omega) | omega | (intro hh; (try obtain ⟨hh1, hh2⟩ := hh); (repeat' apply And.intro) <;> first | assumption | (simp only [inR]; omega) | omega | (intros; (repeat' apply And.intro) <;> first | assumption | (simp only [inR]; omega) | omega)) | (intros; (repeat' apply And.intro) <;> first | assumption | (simp only [inR]; omega) | omega | (simp_all; done) | (simp_all [inR]; omega))))
  refine hK1 _ ?_
  clear hK1
  refine W_seq (fun K2 hK2 => ?_)
  refine W_seq (fun K3 hK3 => ?_)
  refine W_region hT hG [4] [0, 5, 6, 7] ?_
  rw [hnt]
  simp only [baseS, eq_self, implies_true, if_true, if_false, reduceIte, Nat.reduceBEq, Nat.reduceEqDiff, Nat.reduceLT, Nat.reduceAdd, reduceCtorEq, tyInt, tdInt, tyBoxes, tdBoxes, tyBox, tdBox, c_impl_boxAt, c_impl_BoxValid, storeAV, Value.cells, FT.of]
  repeat (refine And.intro ?_ ?_; focus (first | exact ordP (by kernel_rfl) | with_reducible exact rfl | assumption | trivial | (simp only [inR]; omega) | omega | (intro hh; (try obtain ⟨hh1, hh2⟩ := hh); (repeat' apply And.intro) <;> first | assumption | (simp only [inR]; omega) | omega | (intros; (repeat' apply And.intro) <;> first | assumption | (simp only [inR]; omega) | omega)) | (intros; (repeat' apply And.intro) <;> first | assumption | (simp only [inR]; omega) | omega | (simp_all; done) | (simp_all [inR]; omega))))
  refine hK3 _ ?_
  clear hK3
  refine W_block ?_
  refine W_loop (α := Int) [(0, .as), (5, .as), (6, .as), (7, .as)] (fun i => ⟨[(0, .rs .box bs), (5, .rs .box bs), (6, .int bs.length), (7, .int i)], [], 28⟩) (fun i => 0 ≤ i ∧ i ≤ bs.length ∧ ∀ k : Nat, (k : Int) < i → bxOK bs k = true) (fun i => (bs.length - i).toNat) 0 ?_ ?_ ?_
  · (try simp only [hnt, hnp]); rfl
  · exact ⟨by omega, by omega, fun k hk => by omega⟩
  rintro i ⟨hi0, hi1, hI⟩
  have htl : (bs.take i.toNat).length ≤ 9223372036854775807 := by rw [List.length_take]; omega
  refine W_seq (fun K5 hK5 => ?_)
  refine W_region hT hG [4] [0, 5, 6, 7, 8] ?_
  rw [hnt]
  simp only [baseS, eq_self, implies_true, if_true, if_false, reduceIte, Nat.reduceBEq, Nat.reduceEqDiff, Nat.reduceLT, Nat.reduceAdd, reduceCtorEq, tyInt, tdInt, tyBoxes, tdBoxes, tyBox, tdBox, c_impl_boxAt, c_impl_BoxValid, storeAV, Value.cells, FT.of]
  repeat (refine And.intro ?_ ?_; focus (first | exact ordP (by kernel_rfl) | with_reducible exact rfl | assumption | trivial | (simp only [inR]; omega) | omega | (intro hh; (try obtain ⟨hh1, hh2⟩ := hh); (repeat' apply And.intro) <;> first | assumption | (simp only [inR]; omega) | omega | (intros; (repeat' apply And.intro) <;> first | assumption | (simp only [inR]; omega) | omega)) | (intros; (repeat' apply And.intro) <;> first | assumption | (simp only [inR]; omega) | omega | (simp_all; done) | (simp_all [inR]; omega))))
  refine hK5 _ ?_
  clear hK5
  refine W_seq (fun K6 hK6 => ?_)
  refine W_cond (b := _) rfl (fun hc7 => ?_) (fun hc7 => ?_)
  · try simp only [decide_eq_true_eq, decide_eq_false_iff_not, ne_eq, Decidable.not_not, Bool.not_eq_true', Bool.not_eq_false', Bool.or_eq_true, Bool.and_eq_true, Bool.or_eq_false_iff, Bool.and_eq_false_iff] at hc7
    refine W_skip ?_
    simp only [thenQ, blockQ, loopQ, reduceIte, Nat.reduceEqDiff]
    refine hK6 _ ?_
    clear hK6
    refine W_seq (fun K8 hK8 => ?_)
    refine W_block ?_
    refine W_seq (fun K9 hK9 => ?_)
    refine W_region hT hG [4] [0, 3, 4, 5, 6, 7] ?_
    rw [hnt]
    simp only [baseS, eq_self, implies_true, if_true, if_false, reduceIte, Nat.reduceBEq, Nat.reduceEqDiff, Nat.reduceLT, Nat.reduceAdd, reduceCtorEq, tyInt, tdInt, tyBoxes, tdBoxes, tyBox, tdBox, c_impl_boxAt, c_impl_BoxValid, storeAV, Value.cells, FT.of]
    repeat (refine And.intro ?_ ?_; focus (first | exact ordP (by kernel_rfl) | with_reducible exact rfl | assumption | trivial | (simp only [inR]; omega) | omega | (intro hh; (try obtain ⟨hh1, hh2⟩ := hh); (repeat' apply And.intro) <;> first | assumption | (simp only [inR]; omega) | omega | (intros; (repeat' apply And.intro) <;> first | assumption | (simp only [inR]; omega) | omega)) | (intros; (repeat' apply And.intro) <;> first | assumption | (simp only [inR]; omega) | omega | (simp_all; done) | (simp_all [inR]; omega))))
    refine hK9 _ ?_
    clear hK9
    refine W_seq (fun K10 hK10 => ?_)
    refine W_region_draw hT hG (by rw [hP]; exact draws_ok) [4] [0, 5, 6, 7, 23] ?_
    rw [hnt]
    simp only [baseS, eq_self, implies_true, if_true, if_false, reduceIte, Nat.reduceBEq, Nat.reduceEqDiff, Nat.reduceLT, Nat.reduceAdd, reduceCtorEq, tyInt, tdInt, tyBoxes, tdBoxes, tyBox, tdBox, c_impl_boxAt, c_impl_BoxValid, storeAV, Value.cells, FT.of]
    repeat (refine And.intro ?_ ?_; focus (first | exact ordP (by kernel_rfl) | with_reducible exact rfl | assumption | trivial | (simp only [inR]; omega) | omega | (intro hh; (try obtain ⟨hh1, hh2⟩ := hh); (repeat' apply And.intro) <;> first | assumption | (simp only [inR]; omega) | omega | (intros; (repeat' apply And.intro) <;> first | assumption | (simp only [inR]; omega) | omega)) | (intros; (repeat' apply And.intro) <;> first | assumption | (simp only [inR]; omega) | omega | (simp_all; done) | (simp_all [inR]; omega))))
    refine hK10 _ ?_
    clear hK10
    refine W_cond (b := _) rfl (fun hc11 => ?_) (fun hc11 => ?_)
    · try simp only [decide_eq_true_eq, decide_eq_false_iff_not, ne_eq, Decidable.not_not, Bool.not_eq_true', Bool.not_eq_false', Bool.or_eq_true, Bool.and_eq_true, Bool.or_eq_false_iff, Bool.and_eq_false_iff] at hc11
      refine W_seq (fun K12 hK12 => ?_)
      refine W_region hT hG [4] [2] ?_
      rw [hnt]
      simp only [baseS, eq_self, implies_true, if_true, if_false, reduceIte, Nat.reduceBEq, Nat.reduceEqDiff, Nat.reduceLT, Nat.reduceAdd, reduceCtorEq, tyInt, tdInt, tyBoxes, tdBoxes, tyBox, tdBox, c_impl_boxAt, c_impl_BoxValid, storeAV, Value.cells, FT.of]
      repeat (refine And.intro ?_ ?_; focus (first | exact ordP (by kernel_rfl) | with_reducible exact rfl | assumption | trivial | (simp only [inR]; omega) | omega | (intro hh; (try obtain ⟨hh1, hh2⟩ := hh); (repeat' apply And.intro) <;> first | assumption | (simp only [inR]; omega) | omega | (intros; (repeat' apply And.intro) <;> first | assumption | (simp only [inR]; omega) | omega)) | (intros; (repeat' apply And.intro) <;> first | assumption | (simp only [inR]; omega) | omega | (simp_all; done) | (simp_all [inR]; omega))))
      refine hK12 _ ?_
      clear hK12
      refine W_ret ?_
      simp only [thenQ, blockQ, loopQ, retQ, reduceIte, Nat.reduceEqDiff]
      refine ret0 ?_ rfl rfl (.inr rfl) rfl
      simp only [show Try.f97.results.toList = [ResultVar.tmp 2] from rfl, resAV, resL, look, Nat.reduceEqDiff, reduceIte, tyHull, tdHull, applyUps, noH, isStr, List.length_cons, List.length_nil, Nat.reduceAdd, and_self]
      all_goals (
        refine congrArg (fun x => some (AV.bool x)) ?_
        first | exact boxesB_end hI hc11 | exact boxesB_bad hi0 hc7 (bxOK_not hc11))
    · try simp only [decide_eq_true_eq, decide_eq_false_iff_not, ne_eq, Decidable.not_not, Bool.not_eq_true', Bool.not_eq_false', Bool.or_eq_true, Bool.and_eq_true, Bool.or_eq_false_iff, Bool.and_eq_false_iff] at hc11
      refine W_skip ?_
      simp only [thenQ, blockQ, loopQ, reduceIte, Nat.reduceEqDiff]
      refine hK8 _ ?_
      clear hK8
      refine W_region hT hG [4] [0, 5, 6, 7] ?_
      rw [hnt]
      simp only [baseS, eq_self, implies_true, if_true, if_false, reduceIte, Nat.reduceBEq, Nat.reduceEqDiff, Nat.reduceLT, Nat.reduceAdd, reduceCtorEq, tyInt, tdInt, tyBoxes, tdBoxes, tyBox, tdBox, c_impl_boxAt, c_impl_BoxValid, storeAV, Value.cells, FT.of]
      repeat (refine And.intro ?_ ?_; focus (first | exact ordP (by kernel_rfl) | with_reducible exact rfl | assumption | trivial | (simp only [inR]; omega) | omega | (intro hh; (try obtain ⟨hh1, hh2⟩ := hh); (repeat' apply And.intro) <;> first | assumption | (simp only [inR]; omega) | omega | (intros; (repeat' apply And.intro) <;> first | assumption | (simp only [inR]; omega) | omega)) | (intros; (repeat' apply And.intro) <;> first | assumption | (simp only [inR]; omega) | omega | (simp_all; done) | (simp_all [inR]; omega))))
      refine ⟨i + 1, (by (try simp only [hnt, hnp]); rfl), ⟨by omega, by omega, all_next hi0 hI (bxOK_of ⟨hc11.1, Int.not_le.1 hc11.2⟩)⟩, by dsimp only; omega⟩
  · try simp only [decide_eq_true_eq, decide_eq_false_iff_not, ne_eq, Decidable.not_not, Bool.not_eq_true', Bool.not_eq_false', Bool.or_eq_true, Bool.and_eq_true, Bool.or_eq_false_iff, Bool.and_eq_false_iff] at hc7
    refine W_exit ?_
    simp only [thenQ, blockQ, loopQ, reduceIte, Nat.reduceEqDiff]
    refine hK2 _ ?_
    clear hK2
    refine W_seq (fun K13 hK13 => ?_)
    refine W_region hT hG [4] [2] ?_
    rw [hnt]
    simp only [baseS, eq_self, implies_true, if_true, if_false, reduceIte, Nat.reduceBEq, Nat.reduceEqDiff, Nat.reduceLT, Nat.reduceAdd, reduceCtorEq, tyInt, tdInt, tyBoxes, tdBoxes, tyBox, tdBox, c_impl_boxAt, c_impl_BoxValid, storeAV, Value.cells, FT.of]
    repeat (refine And.intro ?_ ?_; focus (first | exact ordP (by kernel_rfl) | with_reducible exact rfl | assumption | trivial | (simp only [inR]; omega) | omega | (intro hh; (try obtain ⟨hh1, hh2⟩ := hh); (repeat' apply And.intro) <;> first | assumption | (simp only [inR]; omega) | omega | (intros; (repeat' apply And.intro) <;> first | assumption | (simp only [inR]; omega) | omega)) | (intros; (repeat' apply And.intro) <;> first | assumption | (simp only [inR]; omega) | omega | (simp_all; done) | (simp_all [inR]; omega))))
    refine hK13 _ ?_
    clear hK13
    refine W_ret ?_
    simp only [thenQ, blockQ, loopQ, retQ, reduceIte, Nat.reduceEqDiff]
    refine ret0 ?_ rfl rfl (.inr rfl) rfl
    simp only [show Try.f97.results.toList = [ResultVar.tmp 2] from rfl, resAV, resL, look, Nat.reduceEqDiff, reduceIte, tyHull, tdHull, applyUps, noH, isStr, List.length_cons, List.length_nil, Nat.reduceAdd, and_self]
    all_goals (
      refine congrArg (fun x => some (AV.bool x)) ?_
      first | exact boxesB_end hI hc7 | exact boxesB_bad hi0 HCPREV (bxOK_not hc7))

def c_spec_BoxesValid : Ctr where
  modes := [.v (.r .box)]
  al := false
  run := fun xs os => match xs, os with
    | [.rs .box bs], [] => some ⟨bs.length ≤ 9223372036854775807, .bool (boxesB bs), [], []⟩
    | _, _ => none
theorem m_spec_BoxesValid : Meets Try.prog 82 c_spec_BoxesValid := by
  refine meets_of (T := tyT) tyOK Try.func82 (by rfl) rfl (by decide) ?_
  intro args owns R hrun hpre
  simp only [c_spec_BoxesValid] at hrun
  split at hrun
  case h_2 => cases hrun
  rename_i bs
  cases hrun
  try dsimp only at hpre
  refine ⟨_, rfl, fun E hP hnt hnp => ?_⟩
  replace hnt : E.nt = 30 := hnt
  replace hnp : E.np = 1 := hnp
  have hT : ∀ t d, tyT t = some d → TyOK E.P t d := hP ▸ tyOK
  have hG : ∀ f C, Γof [(85, c_spec_l2Find), (122, c_spec_BoxValid)] f = some C → Meets E.P f C := hΓof (by rw [hP]; exact ⟨m_spec_l2Find, m_spec_BoxValid, trivial⟩)
  try simp only [show Try.f82.ntmps = 30 from rfl]
  refine W_seq (fun K1 hK1 => ?_)
  refine W_region hT hG [] [0] ?_
  rw [hnt]
  simp only [baseS, eq_self, implies_true, if_true, if_false, reduceIte, Nat.reduceBEq, Nat.reduceEqDiff, Nat.reduceLT, Nat.reduceAdd, reduceCtorEq, tyInt, tdInt, tyBoxes, tdBoxes, tyBox, tdBox, c_spec_l2Find, c_spec_BoxValid]
  repeat (refine And.intro ?_ ?_; focus (first | exact ordP (by kernel_rfl) | with_reducible exact rfl | assumption | trivial | (simp only [inR]; omega) | omega | (intro hh; (try obtain ⟨hh1, hh2⟩ := hh); (repeat' apply And.intro) <;> first | assumption | (simp only [inR]; omega) | omega | (intros; (repeat' apply And.intro) <;> first | assumption | (simp only [inR]; omega) | omega)) | (intros; (repeat' apply And.intro) <;> first | assumption | (simp only [inR]; omega) | omega | (simp_all; done) | (simp_all [inR]; omega))))
  refine hK1 _ ?_
  clear hK1
  refine W_seq (fun K2 hK2 => ?_)
  refine W_seq (fun K3 hK3 => ?_)
  refine W_region hT hG [] [0, 3] ?_
  rw [hnt]
  simp only [baseS, eq_self, implies_true, if_true, if_false, reduceIte, Nat.reduceBEq, Nat.reduceEqDiff, Nat.reduceLT, Nat.reduceAdd, reduceCtorEq, tyInt, tdInt, tyBoxes, tdBoxes, tyBox, tdBox, c_spec_l2Find, c_spec_BoxValid]
  repeat (refine And.intro ?_ ?_; focus (first | exact ordP (by kernel_rfl) | with_reducible exact rfl | assumption | trivial | (simp only [inR]; omega) | omega | (intro hh; (try obtain ⟨hh1, hh2⟩ := hh); (repeat' apply And.intro) <;> first | assumption | (simp only [inR]; omega) | omega | (intros; (repeat' apply And.intro) <;> first | assumption | (simp only [inR]; omega) | omega)) | (intros; (repeat' apply And.intro) <;> first | assumption | (simp only [inR]; omega) | omega | (simp_all; done) | (simp_all [inR]; omega))))
  refine hK3 _ ?_
  clear hK3
  refine W_block ?_
  refine W_loop (α := Int) [(0, .as), (3, .as)] (fun i => ⟨[(0, .rs .box bs), (3, .int i)], [], 30⟩) (fun i => 0 ≤ i ∧ i ≤ bs.length ∧ ∀ k : Nat, (k : Int) < i → bxOK bs k = true) (fun i => (bs.length - i).toNat) 0 ?_ ?_ ?_
  · (try simp only [hnt, hnp]); rfl
  · exact ⟨by omega, by omega, fun k hk => by omega⟩
  rintro i ⟨hi0, hi1, hI⟩
  have hft : i < bs.length → (findF bs (bx bs i.toNat).id 0 < i ↔ 0 ≤ findF (bs.take i.toNat) (bx bs i.toNat).id 0) := fun h => by
    have := findF_take (a := bs) (k := i.toNat) (by omega)
    rw [Int.toNat_of_nonneg hi0] at this; exact this
  refine W_seq (fun K5 hK5 => ?_)
  refine W_seq (fun K6 hK6 => ?_)
  refine W_region hT hG [] [0, 3, 7] ?_
  rw [hnt]
  simp only [baseS, eq_self, implies_true, if_true, if_false, reduceIte, Nat.reduceBEq, Nat.reduceEqDiff, Nat.reduceLT, Nat.reduceAdd, reduceCtorEq, tyInt, tdInt, tyBoxes, tdBoxes, tyBox, tdBox, c_spec_l2Find, c_spec_BoxValid]
  repeat (refine And.intro ?_ ?_; focus (first | exact ordP (by kernel_rfl) | with_reducible exact rfl | assumption | trivial | (simp only [inR]; omega) | omega | (intro hh; (try obtain ⟨hh1, hh2⟩ := hh); (repeat' apply And.intro) <;> first | assumption | (simp only [inR]; omega) | omega | (intros; (repeat' apply And.intro) <;> first | assumption | (simp only [inR]; omega) | omega)) | (intros; (repeat' apply And.intro) <;> first | assumption | (simp only [inR]; omega) | omega | (simp_all; done) | (simp_all [inR]; omega))))
  refine hK6 _ ?_
  clear hK6
  refine W_cond (b := _) rfl (fun hc7 => ?_) (fun hc7 => ?_)
  · try simp only [decide_eq_true_eq, decide_eq_false_iff_not, ne_eq, Decidable.not_not, Bool.not_eq_true', Bool.not_eq_false', Bool.or_eq_true, Bool.and_eq_true, Bool.or_eq_false_iff, Bool.and_eq_false_iff] at hc7
    refine W_skip ?_
    simp only [thenQ, blockQ, loopQ, reduceIte, Nat.reduceEqDiff]
    refine hK5 _ ?_
    clear hK5
    refine W_seq (fun K8 hK8 => ?_)
    refine W_block ?_
    refine W_seq (fun K9 hK9 => ?_)
    refine W_region hT hG [] [0, 3, 26] ?_
    rw [hnt]
    simp only [baseS, eq_self, implies_true, if_true, if_false, reduceIte, Nat.reduceBEq, Nat.reduceEqDiff, Nat.reduceLT, Nat.reduceAdd, reduceCtorEq, tyInt, tdInt, tyBoxes, tdBoxes, tyBox, tdBox, c_spec_l2Find, c_spec_BoxValid]
    repeat (refine And.intro ?_ ?_; focus (first | exact ordP (by kernel_rfl) | with_reducible exact rfl | assumption | trivial | (simp only [inR]; omega) | omega | (intro hh; (try obtain ⟨hh1, hh2⟩ := hh); (repeat' apply And.intro) <;> first | assumption | (simp only [inR]; omega) | omega | (intros; (repeat' apply And.intro) <;> first | assumption | (simp only [inR]; omega) | omega)) | (intros; (repeat' apply And.intro) <;> first | assumption | (simp only [inR]; omega) | omega | (simp_all; done) | (simp_all [inR]; omega))))
    refine hK9 _ ?_
    clear hK9
    refine W_cond (b := _) rfl (fun hc10 => ?_) (fun hc10 => ?_)
    · try simp only [decide_eq_true_eq, decide_eq_false_iff_not, ne_eq, Decidable.not_not, Bool.not_eq_true', Bool.not_eq_false', Bool.or_eq_true, Bool.and_eq_true, Bool.or_eq_false_iff, Bool.and_eq_false_iff] at hc10
      refine W_seq (fun K11 hK11 => ?_)
      refine W_region hT hG [] [2] ?_
      rw [hnt]
      simp only [baseS, eq_self, implies_true, if_true, if_false, reduceIte, Nat.reduceBEq, Nat.reduceEqDiff, Nat.reduceLT, Nat.reduceAdd, reduceCtorEq, tyInt, tdInt, tyBoxes, tdBoxes, tyBox, tdBox, c_spec_l2Find, c_spec_BoxValid]
      repeat (refine And.intro ?_ ?_; focus (first | exact ordP (by kernel_rfl) | with_reducible exact rfl | assumption | trivial | (simp only [inR]; omega) | omega | (intro hh; (try obtain ⟨hh1, hh2⟩ := hh); (repeat' apply And.intro) <;> first | assumption | (simp only [inR]; omega) | omega | (intros; (repeat' apply And.intro) <;> first | assumption | (simp only [inR]; omega) | omega)) | (intros; (repeat' apply And.intro) <;> first | assumption | (simp only [inR]; omega) | omega | (simp_all; done) | (simp_all [inR]; omega))))
      refine hK11 _ ?_
      clear hK11
      refine W_ret ?_
      simp only [thenQ, blockQ, loopQ, retQ, reduceIte, Nat.reduceEqDiff]
      refine ret0 ?_ rfl rfl (.inr rfl) rfl
      simp only [show Try.f82.results.toList = [ResultVar.tmp 2] from rfl, resAV, resL, look, Nat.reduceEqDiff, reduceIte, tyHull, tdHull, applyUps, noH, isStr, List.length_cons, List.length_nil, Nat.reduceAdd, and_self]
      all_goals (
        refine congrArg (fun x => some (AV.bool x)) ?_
        first | exact boxesB_end hI hc10 | exact boxesB_bad hi0 hc7 (bxOK_not (hc10.imp id (hft hc7).1)))
    · try simp only [decide_eq_true_eq, decide_eq_false_iff_not, ne_eq, Decidable.not_not, Bool.not_eq_true', Bool.not_eq_false', Bool.or_eq_true, Bool.and_eq_true, Bool.or_eq_false_iff, Bool.and_eq_false_iff] at hc10
      refine W_skip ?_
      simp only [thenQ, blockQ, loopQ, reduceIte, Nat.reduceEqDiff]
      refine hK8 _ ?_
      clear hK8
      refine W_region hT hG [] [0, 3] ?_
      rw [hnt]
      simp only [baseS, eq_self, implies_true, if_true, if_false, reduceIte, Nat.reduceBEq, Nat.reduceEqDiff, Nat.reduceLT, Nat.reduceAdd, reduceCtorEq, tyInt, tdInt, tyBoxes, tdBoxes, tyBox, tdBox, c_spec_l2Find, c_spec_BoxValid]
      repeat (refine And.intro ?_ ?_; focus (first | exact ordP (by kernel_rfl) | with_reducible exact rfl | assumption | trivial | (simp only [inR]; omega) | omega | (intro hh; (try obtain ⟨hh1, hh2⟩ := hh); (repeat' apply And.intro) <;> first | assumption | (simp only [inR]; omega) | omega | (intros; (repeat' apply And.intro) <;> first | assumption | (simp only [inR]; omega) | omega)) | (intros; (repeat' apply And.intro) <;> first | assumption | (simp only [inR]; omega) | omega | (simp_all; done) | (simp_all [inR]; omega))))
      refine ⟨i + 1, (by (try simp only [hnt, hnp]); rfl), ⟨by omega, by omega, all_next hi0 hI (bxOK_of ⟨hc10.1, Int.not_le.1 (mt (hft hc7).2 hc10.2)⟩)⟩, by dsimp only; omega⟩
  · try simp only [decide_eq_true_eq, decide_eq_false_iff_not, ne_eq, Decidable.not_not, Bool.not_eq_true', Bool.not_eq_false', Bool.or_eq_true, Bool.and_eq_true, Bool.or_eq_false_iff, Bool.and_eq_false_iff] at hc7
    refine W_exit ?_
    simp only [thenQ, blockQ, loopQ, reduceIte, Nat.reduceEqDiff]
    refine hK2 _ ?_
    clear hK2
    refine W_seq (fun K12 hK12 => ?_)
    refine W_region hT hG [] [2] ?_
    rw [hnt]
    simp only [baseS, eq_self, implies_true, if_true, if_false, reduceIte, Nat.reduceBEq, Nat.reduceEqDiff, Nat.reduceLT, Nat.reduceAdd, reduceCtorEq, tyInt, tdInt, tyBoxes, tdBoxes, tyBox, tdBox, c_spec_l2Find, c_spec_BoxValid]
    repeat (refine And.intro ?_ ?_; focus (first | exact ordP (by kernel_rfl) | with_reducible exact rfl | assumption | trivial | (simp only [inR]; omega) | omega | (intro hh; (try obtain ⟨hh1, hh2⟩ := hh); (repeat' apply And.intro) <;> first | assumption | (simp only [inR]; omega) | omega | (intros; (repeat' apply And.intro) <;> first | assumption | (simp only [inR]; omega) | omega)) | (intros; (repeat' apply And.intro) <;> first | assumption | (simp only [inR]; omega) | omega | (simp_all; done) | (simp_all [inR]; omega))))
    refine hK12 _ ?_
    clear hK12
    refine W_ret ?_
    simp only [thenQ, blockQ, loopQ, retQ, reduceIte, Nat.reduceEqDiff]
    refine ret0 ?_ rfl rfl (.inr rfl) rfl
    simp only [show Try.f82.results.toList = [ResultVar.tmp 2] from rfl, resAV, resL, look, Nat.reduceEqDiff, reduceIte, tyHull, tdHull, applyUps, noH, isStr, List.length_cons, List.length_nil, Nat.reduceAdd, and_self]
    all_goals (
      refine congrArg (fun x => some (AV.bool x)) ?_
      first | exact boxesB_end hI hc7 | exact boxesB_bad hi0 HCPREV (bxOK_not (hc7.imp id (hft HCPREV).1)))

end Go.Proofs.Ytpiaeckkjdcifaa
