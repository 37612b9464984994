/- How many can be plugged in: the marked lists' law. No condition. -/
import Derived.Test.YtpiaeckkjdcifaaPlugOpt
import Derived.Test.YtpiaeckkjdcifaaPlugsOfW
namespace Go.Proofs.Ytpiaeckkjdcifaa
open Go
set_option linter.unusedVariables false
set_option linter.unusedSimpArgs false

def freeB (tk : Nat) (p : Int) : Bool := !tk.testBit p.toNat
def cP (f : Int → Bool) : Nat → Int
  | 0 => 0
  | n + 1 => cP f n + (if f (n : Int) = true then 1 else 0)
def nbB : List (List Int) → List Bool → Int → Bool
  | u :: us, b :: bs, p => (b && decide (p ∈ u)) || nbB us bs p
  | _, _, _ => false
def szB : List Bool → Int
  | [] => 0
  | b :: bs => (if b = true then 1 else 0) + szB bs
def valB (u : List (List Int)) (S : List Bool) (tk : Nat) : Int := u.length - szB S + cP (fun p => nbB u S p && freeB tk p) 6
theorem cP_nonneg (f : Int → Bool) : ∀ n, 0 ≤ cP f n
  | 0 => Int.le_refl _
  | n + 1 => by have := cP_nonneg f n; simp only [cP]; split <;> omega
theorem cP_mono {f g : Int → Bool} (h : ∀ p, f p = true → g p = true) : ∀ n, cP f n ≤ cP g n
  | 0 => Int.le_refl _
  | n + 1 => by
    have h1 := cP_mono h n
    have h2 := h n
    simp only [cP]
    by_cases h3 : f (n : Int) = true
    · rw [if_pos h3, if_pos (h2 h3)]; omega
    · rw [if_neg h3]; split <;> omega
theorem cP_sub {f g : Int → Bool} (h : ∀ p : Int, 0 ≤ p → f p = true → g p = true) : ∀ n, cP f n ≤ cP g n
  | 0 => Int.le_refl _
  | n + 1 => by
    have h1 := cP_sub h n
    have h2 := h n (by omega)
    simp only [cP]
    by_cases h3 : f (n : Int) = true
    · rw [if_pos h3, if_pos (h2 h3)]; omega
    · rw [if_neg h3]; split <;> omega
theorem cP_sub6 {f g : Int → Bool} (h : ∀ p : Int, 0 ≤ p → f p = true → g p = true) : cP f 6 ≤ cP g 6 := cP_sub h 6
theorem cP_lt {f g : Int → Bool} (h : ∀ p, f p = true → g p = true) {x : Int} (h0 : 0 ≤ x) (hf : f x = false) (hg : g x = true) : ∀ n : Nat, x < n → cP f n + 1 ≤ cP g n
  | 0, hx => by omega
  | n + 1, hx => by
    simp only [cP]
    by_cases e : x = (n : Int)
    · have h1 := cP_mono h n
      rw [← e, hf, hg, if_neg (by simp), if_pos rfl]; omega
    · have h1 := cP_lt h h0 hf hg n (by omega)
      have h2 := h n
      by_cases h3 : f (n : Int) = true
      · rw [if_pos h3, if_pos (h2 h3)]; omega
      · rw [if_neg h3]; split <;> omega
theorem cP_or (f g : Int → Bool) : ∀ n, cP (fun p => f p || g p) n + cP (fun p => f p && g p) n = cP f n + cP g n
  | 0 => rfl
  | n + 1 => by
    have h1 := cP_or f g n
    simp only [cP]
    by_cases hf : f (n : Int) = true <;> by_cases hg : g (n : Int) = true <;> simp only [hf, hg] <;> simp <;> omega
theorem cP_one {f g : Int → Bool} {x : Int} (h : ∀ p : Int, 0 ≤ p → p ≠ x → f p = true → g p = true) (h0 : 0 ≤ x) : ∀ n : Nat, cP f n ≤ cP g n + (if x < n then 1 else 0)
  | 0 => by simp only [cP]; split <;> omega
  | n + 1 => by
    have h1 := cP_one h h0 n
    simp only [cP]
    by_cases e : x = (n : Int)
    · rw [if_neg (by omega)] at h1
      rw [if_pos (show x < ((n + 1 : Nat) : Int) by omega)]
      split <;> split <;> omega
    · have h2 := h n (by omega) (fun h => e h.symm)
      have h4 : (if x < (n : Int) then (1 : Int) else 0) ≤ if x < ((n + 1 : Nat) : Int) then 1 else 0 := by split <;> split <;> omega
      by_cases h3 : f (n : Int) = true
      · rw [if_pos h3, if_pos (h2 h3)]; omega
      · rw [if_neg h3]; split <;> omega
theorem szB_zip : ∀ (S S' : List Bool), S.length = S'.length → szB (List.zipWith (· || ·) S S') + szB (List.zipWith (· && ·) S S') = szB S + szB S'
  | [], [], _ => rfl
  | b :: S, b' :: S', h => by
    have := szB_zip S S' (by simpa using h)
    simp only [List.zipWith_cons_cons, szB]
    cases b <;> cases b' <;> simp <;> omega
  | [], _ :: _, h => by simp at h
  | _ :: _, [], h => by simp at h
theorem nbB_or : ∀ (u : List (List Int)) (S S' : List Bool) (p : Int), S.length = S'.length → nbB u (List.zipWith (· || ·) S S') p = (nbB u S p || nbB u S' p)
  | [], S, S', p, _ => by cases S <;> cases S' <;> rfl
  | _ :: _, [], [], p, _ => rfl
  | u :: us, b :: S, b' :: S', p, h => by
    have := nbB_or us S S' p (by simpa using h)
    simp only [List.zipWith_cons_cons, nbB, this]
    cases b <;> cases b' <;> cases decide (p ∈ u) <;> cases nbB us S p <;> cases nbB us S' p <;> rfl
  | _ :: _, [], _ :: _, _, h => by simp at h
  | _ :: _, _ :: _, [], _, h => by simp at h
theorem nbB_and : ∀ (u : List (List Int)) (S S' : List Bool) (p : Int), S.length = S'.length → nbB u (List.zipWith (· && ·) S S') p = true → (nbB u S p && nbB u S' p) = true
  | [], S, S', p, _, h => by cases S <;> cases S' <;> simp [nbB] at h
  | _ :: _, [], [], p, _, h => by simp [nbB] at h
  | u :: us, b :: S, b' :: S', p, h, h1 => by
    have := nbB_and us S S' p (by simpa using h)
    simp only [List.zipWith_cons_cons, nbB] at h1 ⊢
    revert h1 this
    cases b <;> cases b' <;> cases decide (p ∈ u) <;> cases nbB us S p <;> cases nbB us S' p <;> simp
  | _ :: _, [], _ :: _, _, h, _ => by simp at h
  | _ :: _, _ :: _, [], _, h, _ => by simp at h
theorem valB_sub (u : List (List Int)) (S S' : List Bool) (tk : Nat) (h : S.length = S'.length) :
    valB u (List.zipWith (· || ·) S S') tk + valB u (List.zipWith (· && ·) S S') tk ≤ valB u S tk + valB u S' tk := by
  have h1 := szB_zip S S' h
  have h2 := cP_or (fun p => nbB u S p && freeB tk p) (fun p => nbB u S' p && freeB tk p) 6
  have h3 : cP (fun p => nbB u (List.zipWith (· || ·) S S') p && freeB tk p) 6 ≤ cP (fun p => (nbB u S p && freeB tk p) || (nbB u S' p && freeB tk p)) 6 := by
    refine cP_mono (fun p hp => ?_) 6
    rw [nbB_or u S S' p h] at hp
    revert hp
    cases nbB u S p <;> cases nbB u S' p <;> cases freeB tk p <;> simp
  have h4 : cP (fun p => nbB u (List.zipWith (· && ·) S S') p && freeB tk p) 6 ≤ cP (fun p => (nbB u S p && freeB tk p) && (nbB u S' p && freeB tk p)) 6 := by
    refine cP_mono (fun p hp => ?_) 6
    have hp1 : nbB u (List.zipWith (· && ·) S S') p = true := by
      revert hp; cases nbB u (List.zipWith (· && ·) S S') p <;> simp
    have hp2 : freeB tk p = true := by
      revert hp; cases freeB tk p <;> simp
    have := nbB_and u S S' p h hp1
    revert this
    rw [hp2]
    cases nbB u S p <;> cases nbB u S' p <;> simp
  unfold valB
  omega
theorem free_or {tk : Nat} {x p : Int} (hx : 0 ≤ x) (hp : 0 ≤ p) : freeB (tk ||| 2 ^ x.toNat) p = (freeB tk p && !decide (p = x)) := by
  unfold freeB
  rw [Nat.testBit_or, Nat.testBit_two_pow]
  by_cases e : p = x
  · subst e; simp
  · have : ¬ x.toNat = p.toNat := by omega
    simp [e, this]
/-- All plugs lie where plugs may lie. -/
def inPl (u : List (List Int)) : Prop := ∀ xs ∈ u, ∀ x ∈ xs, 0 ≤ x ∧ x ≤ 5
theorem step_two (f : Nat → List Int × Int) (tk : Nat) : ∀ (l : List Int) (s : List Int × Int), (l.foldl (stepI f tk) s).2 = s.2 ∨ ∃ x ∈ l, tk.testBit x.toNat = false ∧ (l.foldl (stepI f tk) s).2 = (f (tk ||| 2 ^ x.toNat)).2 + 1
  | [], s => .inl rfl
  | y :: l, s => by
    have key : (stepI f tk s y).2 = s.2 ∨ (tk.testBit y.toNat = false ∧ (stepI f tk s y).2 = (f (tk ||| 2 ^ y.toNat)).2 + 1) := by
      unfold stepI
      split
      · exact .inl rfl
      · rename_i h
        split
        · exact .inr ⟨by simpa using h, rfl⟩
        · exact .inl rfl
    rcases step_two f tk l (stepI f tk s y) with h | ⟨x, hx, h1, h2⟩
    · rw [List.foldl_cons, h]
      rcases key with h2 | ⟨h2, h3⟩
      · exact .inl h2
      · exact .inr ⟨y, by simp, h2, h3⟩
    · exact .inr ⟨x, by simp [hx], h1, h2⟩
theorem plugI_max (us : List Int) (rest : List (List Int)) (tk : Nat) : (plugI (us :: rest) tk).2 = max (us.foldl (stepI (plugI rest) tk) ([], -1)).2 (plugI rest tk).2 := by
  simp only [plugI]; split
  · dsimp only; omega
  · omega
theorem free_of {tk : Nat} {x : Int} (h : tk.testBit x.toNat = false) : freeB tk x = true := by simp [freeB, h]
/-- No more are plugged in than the marked lists let. -/
theorem hall_le : ∀ (u : List (List Int)) (S : List Bool) (tk : Nat), inPl u → S.length = u.length → (plugI u tk).2 ≤ valB u S tk
  | [], [], tk, _, _ => by
    have := cP_nonneg (fun p => nbB [] [] p && freeB tk p) 6
    simp only [plugI, valB, szB, List.length_nil]; omega
  | [], _ :: _, _, _, h => by simp at h
  | _ :: _, [], _, _, h => by simp at h
  | us :: rest, b :: S, tk, hp, hl => by
    have hp' : inPl rest := fun xs hx => hp xs (by simp [hx])
    have hl' : S.length = rest.length := by simpa using hl
    have h0 := hall_le rest S tk hp' hl'
    have hmono : cP (fun p => nbB rest S p && freeB tk p) 6 ≤ cP (fun p => nbB (us :: rest) (b :: S) p && freeB tk p) 6 := by
      refine cP_mono (fun p hh => ?_) 6
      simp only [nbB]
      revert hh
      cases nbB rest S p <;> cases freeB tk p <;> simp
    rw [plugI_max]
    have hA : (plugI rest tk).2 ≤ valB (us :: rest) (b :: S) tk := by
      unfold valB at h0 ⊢
      simp only [szB, List.length_cons]
      have : (if b = true then (1 : Int) else 0) ≤ 1 := by split <;> omega
      omega
    refine Int.max_le.2 ⟨?_, hA⟩
    rcases step_two (plugI rest) tk us ([], -1) with h | ⟨x, hx, h1, h2⟩
    · rw [h]
      have := (plugI_le rest tk).1.2
      dsimp only; omega
    · rw [h2]
      have hx5 := hp us (by simp) x hx
      have h3 := hall_le rest S (tk ||| 2 ^ x.toNat) hp' hl'
      unfold valB at h3 ⊢
      have h4 : cP (fun p => nbB rest S p && freeB (tk ||| 2 ^ x.toNat) p) 6 ≤ cP (fun p => nbB rest S p && (freeB tk p && !decide (p = x))) 6 := cP_sub6 (fun p p0 hh => by rw [free_or hx5.1 p0] at hh; exact hh)
      cases b with
      | false =>
        have h5 : cP (fun p => nbB rest S p && (freeB tk p && !decide (p = x))) 6 ≤ cP (fun p => nbB rest S p && freeB tk p) 6 := by
          refine cP_mono (fun p hh => ?_) 6
          revert hh
          cases nbB rest S p <;> cases freeB tk p <;> simp
        simp only [szB, List.length_cons]
        rw [if_neg (by simp)]
        omega
      | true =>
        have h5 : cP (fun p => nbB rest S p && (freeB tk p && !decide (p = x))) 6 + 1 ≤ cP (fun p => nbB (us :: rest) (true :: S) p && freeB tk p) 6 := by
          refine cP_lt (fun p hh => ?_) hx5.1 (x := x) ?_ ?_ 6 (by omega)
          · simp only [nbB]
            revert hh
            cases nbB rest S p <;> cases freeB tk p <;> simp
          · simp
          · simp [nbB, hx, free_of h1]
        simp only [szB, List.length_cons]
        rw [if_pos trivial]
        omega
/-- Some marked lists let no more. -/
theorem hall_ex : ∀ (u : List (List Int)) (tk : Nat), inPl u → ∃ S : List Bool, S.length = u.length ∧ valB u S tk ≤ (plugI u tk).2
  | [], tk, _ => ⟨[], rfl, by simp [valB, plugI, szB, nbB, cP]⟩
  | us :: rest, tk, hp => by
    have hp' : inPl rest := fun xs hx => hp xs (by simp [hx])
    obtain ⟨S0, hl0, h0⟩ := hall_ex rest tk hp'
    have hmax := plugI_max us rest tk
    by_cases hK : (plugI rest tk).2 + 1 ≤ (plugI (us :: rest) tk).2
    · refine ⟨false :: S0, by simp [hl0], ?_⟩
      have e : valB (us :: rest) (false :: S0) tk = valB rest S0 tk + 1 := by
        unfold valB
        simp only [szB, List.length_cons, nbB, Bool.false_and, Bool.false_or]
        rw [if_neg (by simp)]; omega
      omega
    · have hk : (plugI (us :: rest) tk).2 = (plugI rest tk).2 := by omega
      have hx : ∀ x ∈ us, freeB tk x = true → ∃ S : List Bool, S.length = rest.length ∧ valB rest S tk ≤ (plugI rest tk).2 ∧ nbB rest S x = true := by
        intro x hx hf
        have hx5 := hp us (by simp) x hx
        have hb : tk.testBit x.toNat = false := by revert hf; unfold freeB; cases tk.testBit x.toNat <;> simp
        have h1 := step_mem (plugI rest) tk us ([], -1) x hx hb
        obtain ⟨S, hl, h2⟩ := hall_ex rest (tk ||| 2 ^ x.toNat) hp'
        have h3 := hall_le rest S tk hp' hl
        have h4 : cP (fun p => nbB rest S p && freeB tk p) 6 ≤ cP (fun p => nbB rest S p && freeB (tk ||| 2 ^ x.toNat) p) 6 + 1 := by
          have := cP_one (f := fun p => nbB rest S p && freeB tk p) (g := fun p => nbB rest S p && freeB (tk ||| 2 ^ x.toNat) p) (x := x) (fun p p0 hne hh => by
            rw [free_or hx5.1 p0]; revert hh; cases nbB rest S p <;> cases freeB tk p <;> simp [hne]) hx5.1 6
          rw [if_pos (by omega)] at this
          exact this
        refine ⟨S, hl, by unfold valB at h2 ⊢; omega, ?_⟩
        cases hn : nbB rest S x with
        | true => rfl
        | false =>
          exfalso
          have h5 : cP (fun p => nbB rest S p && freeB tk p) 6 ≤ cP (fun p => nbB rest S p && freeB (tk ||| 2 ^ x.toNat) p) 6 := cP_sub6 (fun p p0 hh => by
            rw [free_or hx5.1 p0]
            by_cases e : p = x
            · subst e; rw [hn] at hh; simp at hh
            · revert hh; cases nbB rest S p <;> cases freeB tk p <;> simp [e])
          unfold valB at h2 h3
          omega
      have key : ∀ l : List Int, (∀ x ∈ l, x ∈ us) → ∃ S : List Bool, S.length = rest.length ∧ valB rest S tk ≤ (plugI rest tk).2 ∧ ∀ x ∈ l, freeB tk x = true → nbB rest S x = true := by
        intro l
        induction l with
        | nil => intro _; exact ⟨S0, hl0, h0, by simp⟩
        | cons y l ih =>
          intro hy
          obtain ⟨S, hl, h1, h2⟩ := ih (fun x hx => hy x (by simp [hx]))
          by_cases hf : freeB tk y = true
          · obtain ⟨S', hl', h1', h2'⟩ := hx y (hy y (by simp)) hf
            refine ⟨List.zipWith (· || ·) S S', by simp [hl, hl'], ?_, ?_⟩
            · have h3 := valB_sub rest S S' tk (by omega)
              have h4 := hall_le rest (List.zipWith (· && ·) S S') tk hp' (by simp [hl, hl'])
              omega
            · intro x hx hfx
              rw [nbB_or rest S S' x (by omega)]
              rcases List.mem_cons.1 hx with h | h
              · subst h; rw [h2']; simp
              · rw [h2 x h hfx]; simp
          · refine ⟨S, hl, h1, fun x hx hfx => ?_⟩
            rcases List.mem_cons.1 hx with h | h
            · subst h; exact absurd hfx hf
            · exact h2 x h hfx
      obtain ⟨S, hl, h1, h2⟩ := key us (fun _ h => h)
      refine ⟨true :: S, by simp [hl], ?_⟩
      have e : cP (fun p => nbB (us :: rest) (true :: S) p && freeB tk p) 6 ≤ cP (fun p => nbB rest S p && freeB tk p) 6 := by
        refine cP_mono (fun p hh => ?_) 6
        simp only [nbB, Bool.true_and] at hh
        by_cases hf : freeB tk p = true
        · by_cases hm : p ∈ us
          · rw [h2 p hm hf, hf]; rfl
          · revert hh; rw [hf]; simp [hm]
        · revert hh; simp [hf]
      rw [hk]
      unfold valB at h1 ⊢
      simp only [szB, List.length_cons]
      rw [if_pos trivial]
      omega
/-- The lists whose bits are set. -/
def someT (x : Nat) : Nat → List Int
  | 0 => []
  | k + 1 => if x.testBit k = true then someT x k ++ [(k : Int)] else someT x k
def bitsT (x : Nat) : Nat → List Bool
  | 0 => []
  | k + 1 => bitsT x k ++ [x.testBit k]
theorem bitsT_len (x : Nat) : ∀ n, (bitsT x n).length = n
  | 0 => rfl
  | n + 1 => by rw [bitsT, List.length_append, bitsT_len x n]; rfl
theorem bitsT_get (x : Nat) : ∀ n k, k < n → (bitsT x n).getD k false = x.testBit k
  | 0, k, h => by omega
  | n + 1, k, h => by
    rw [bitsT, List.getD_eq_getElem?_getD]
    by_cases e : k < n
    · rw [List.getElem?_append_left (by rw [bitsT_len]; exact e), ← List.getD_eq_getElem?_getD]; exact bitsT_get x n k e
    · rw [List.getElem?_append_right (by rw [bitsT_len]; omega), bitsT_len, show k - n = 0 by omega, show k = n by omega]; rfl
theorem szB_app : ∀ a b : List Bool, szB (a ++ b) = szB a + szB b
  | [], b => by simp [szB]
  | x :: a, b => by simp only [List.cons_append, szB, szB_app a b]; omega
theorem someT_len (x : Nat) : ∀ n, ((someT x n).length : Int) = szB (bitsT x n)
  | 0 => rfl
  | n + 1 => by
    have ih := someT_len x n
    rw [someT, bitsT, szB_app]
    split
    · rename_i h; rw [h, List.length_append]; simp only [szB, List.length_cons, List.length_nil]; simp; omega
    · rename_i h; rw [Bool.not_eq_true] at h; rw [h]; simp only [szB]; simp; omega
theorem someT_le (x : Nat) : ∀ n, (someT x n).length ≤ n
  | 0 => Nat.le_refl _
  | n + 1 => by
    have ih := someT_le x n
    rw [someT]; split
    · rw [List.length_append]; simp; omega
    · omega
theorem someT_mem {x : Nat} {i : Int} : ∀ n : Nat, i ∈ someT x n ↔ ∃ k : Nat, k < n ∧ (k : Int) = i ∧ x.testBit k = true
  | 0 => by simp [someT]
  | n + 1 => by
    have ih := someT_mem (x := x) (i := i) n
    rw [someT]
    split
    · rename_i h
      rw [List.mem_append, List.mem_singleton, ih]
      constructor
      · rintro (⟨k, h1, h2, h3⟩ | rfl)
        · exact ⟨k, by omega, h2, h3⟩
        · exact ⟨n, by omega, rfl, h⟩
      · rintro ⟨k, h1, h2, h3⟩
        by_cases e : k = n
        · exact .inr (by rw [← h2, e])
        · exact .inl ⟨k, by omega, h2, h3⟩
    · rename_i h
      rw [ih]
      constructor
      · rintro ⟨k, h1, h2, h3⟩; exact ⟨k, by omega, h2, h3⟩
      · rintro ⟨k, h1, h2, h3⟩
        refine ⟨k, ?_, h2, h3⟩
        have : k ≠ n := fun e => h (e ▸ h3)
        omega
theorem nbB_iff : ∀ (u : List (List Int)) (S : List Bool) (p : Int), S.length = u.length → (nbB u S p = true ↔ ∃ k, k < u.length ∧ S.getD k false = true ∧ p ∈ u.getD k [])
  | [], S, p, _ => by cases S <;> simp [nbB]
  | _ :: _, [], p, h => by simp at h
  | us :: u, b :: S, p, h => by
    have ih := nbB_iff u S p (by simpa using h)
    simp only [nbB, Bool.or_eq_true, Bool.and_eq_true, decide_eq_true_eq, ih]
    constructor
    · rintro (⟨h1, h2⟩ | ⟨k, h1, h2, h3⟩)
      · exact ⟨0, by simp, by simpa using h1, by simpa using h2⟩
      · exact ⟨k + 1, by simp; omega, by simpa using h2, by simpa using h3⟩
    · rintro ⟨k, h1, h2, h3⟩
      cases k with
      | zero => exact .inl ⟨by simpa using h2, by simpa using h3⟩
      | succ k => exact .inr ⟨k, by simp at h1; omega, by simpa using h2, by simpa using h3⟩
theorem has_nb (u : List (List Int)) (x : Nat) (p : Int) : hasPl u (someT x u.length) p = nbB u (bitsT x u.length) p := by
  rw [Bool.eq_iff_iff, nbB_iff u _ p (bitsT_len x _)]
  simp only [hasPl, List.any_eq_true, decide_eq_true_eq, someT_mem]
  constructor
  · rintro ⟨i, ⟨k, h1, rfl, h3⟩, h4⟩
    exact ⟨k, h1, by rw [bitsT_get x _ k h1]; exact h3, by simpa using h4⟩
  · rintro ⟨k, h1, h2, h3⟩
    rw [bitsT_get x _ k h1] at h2
    exact ⟨(k : Int), ⟨k, h1, rfl, h2⟩, by simpa using h3⟩
theorem plugsF_cnt (u : List (List Int)) (s : List Int) : ∀ n, ((plugsF u s n).length : Int) = cP (hasPl u s) n
  | 0 => rfl
  | n + 1 => by
    have ih := plugsF_cnt u s n
    rw [plugsF, cP]
    split
    · rw [List.length_append]; simp; omega
    · omega
theorem cP_ext {f g : Int → Bool} (h : ∀ p, f p = g p) : ∀ n, cP f n = cP g n
  | 0 => rfl
  | n + 1 => by rw [cP, cP, cP_ext h n, h]
/-- How many may be plugged in of the marked lists' sort. -/
def valF (u : List (List Int)) (x : Nat) : Int := (u.length : Int) - (someT x u.length).length + (plugsR u (someT x u.length)).length
theorem idx_some {u : List (List Int)} (x : Nat) : idxB u (someT x u.length) = true := by
  simp only [idxB, List.all_eq_true, decide_eq_true_eq]
  intro i hi
  obtain ⟨k, h1, rfl, _⟩ := (someT_mem _).1 hi
  omega
theorem valF_eq {u : List (List Int)} (h : usesB u = true) (x : Nat) : valF u x = valB u (bitsT x u.length) 0 := by
  rw [valF, valB, someT_len, plugsR, if_pos ⟨h, idx_some x⟩, plugsF_cnt]
  have : cP (hasPl u (someT x u.length)) 6 = cP (fun p => nbB u (bitsT x u.length) p && freeB 0 p) 6 := cP_ext (fun p => by rw [has_nb]; simp [freeB]) 6
  rw [this]
def numB : List Bool → Nat
  | [] => 0
  | b :: S => (if b = true then 1 else 0) + 2 * numB S
theorem numB_lt : ∀ S, numB S < 2 ^ S.length
  | [] => by simp [numB]
  | b :: S => by
    have := numB_lt S
    simp only [numB, List.length_cons, Nat.pow_succ]
    split <;> omega
theorem numB_bit : ∀ (S : List Bool) (k : Nat), k < S.length → (numB S).testBit k = S.getD k false
  | [], k, h => by simp at h
  | b :: S, 0, _ => by
    simp only [numB, Nat.testBit_zero]
    cases b <;> simp <;> omega
  | b :: S, k + 1, h => by
    have ih := numB_bit S k (by simpa using h)
    rw [Nat.testBit_succ]
    have : numB (b :: S) / 2 = numB S := by
      simp only [numB]; split <;> omega
    rw [this, ih]; simp
theorem bits_num {S : List Bool} : bitsT (numB S) S.length = S := by
  apply List.ext_getElem (bitsT_len _ _)
  intro k h1 h2
  have e : ∀ (l : List Bool) (h : k < l.length), l[k] = l.getD k false := fun l h => by rw [List.getD_eq_getElem?_getD, List.getElem?_eq_getElem h]; rfl
  rw [e _ h1, e _ h2, bitsT_get _ _ k h2, numB_bit S k h2]
theorem uses_inPl {u : List (List Int)} (h : usesB u = true) : inPl u := by
  intro xs hxs x hx
  obtain ⟨k, hk, rfl⟩ := List.getElem_of_mem hxs
  have := (usesB_row h k).1
  rw [List.getD_eq_getElem?_getD, List.getElem?_eq_getElem hk] at this
  exact this x hx
theorem hall_many {u : List (List Int)} (h : usesB u = true) (x : Nat) : plugManyF u ≤ valF u x := by
  rw [plugManyF, if_pos h, valF_eq h]
  exact hall_le u _ 0 (uses_inPl h) (bitsT_len x _)
theorem many_ex {u : List (List Int)} (h : usesB u = true) : ∃ x, x < 2 ^ u.length ∧ plugManyF u = valF u x := by
  obtain ⟨S, hl, hv⟩ := hall_ex u 0 (uses_inPl h)
  refine ⟨numB S, by rw [← hl]; exact numB_lt S, ?_⟩
  have h1 := hall_many h (numB S)
  have h2 : valF u (numB S) = valB u S 0 := by rw [valF_eq h, ← hl, bits_num]
  have e : plugManyF u = (plugI u 0).2 := by rw [plugManyF, if_pos h]
  omega
theorem bit_mod {x k : Int} (h : 0 ≤ x) : (x / 2 ^ k.toNat) % 2 = 1 ↔ x.toNat.testBit k.toNat = true := by
  rw [Nat.testBit_eq_decide_div_mod_eq, decide_eq_true_eq]
  have e : x / 2 ^ k.toNat = ((x.toNat / 2 ^ k.toNat : Nat) : Int) := by
    rw [Int.natCast_ediv, Int.toNat_of_nonneg h]
    congr 1
  rw [e]; omega
theorem someT_step {x k : Int} (h : 0 ≤ k) : someT x.toNat (k + 1).toNat = if x.toNat.testBit k.toNat = true then someT x.toNat k.toNat ++ [k] else someT x.toNat k.toNat := by
  have e : (k + 1).toNat = k.toNat + 1 := by omega
  have e2 : ((k.toNat : Nat) : Int) = k := by omega
  rw [e, someT, e2]
/-- Has one of the sets so far no more than are plugged in? -/
def exB (u : List (List Int)) (n : Nat) : Bool := (List.range n).any fun x => decide (plugManyF u = valF u x)
theorem exB_step (u : List (List Int)) (n : Nat) : exB u (n + 1) = (exB u n || decide (plugManyF u = valF u n)) := by
  simp [exB, List.range_succ]
theorem exB_all {u : List (List Int)} (h : usesB u = true) {n : Nat} (hn : 2 ^ u.length ≤ n) : exB u n = true := by
  obtain ⟨x, h1, h2⟩ := many_ex h
  simp only [exB, List.any_eq_true, decide_eq_true_eq]
  exact ⟨x, List.mem_range.2 (by omega), h2⟩

end Go.Proofs.Ytpiaeckkjdcifaa
