/- The core of the method, part P: the rule for a region that draws its order. No condition. -/
import Derived.Test.YtpiaeckkjdcifaaCoreO
namespace Go.Proofs.Ytpiaeckkjdcifaa
set_option linter.unusedVariables false
set_option linter.unusedSimpArgs false
open Go

structure Ent where
  dst : Option Nat
  x : AV
  ups : List (Nat × Option Own)
  news : Nat
  nx : Nat
  slots : List Nat
  refs : List Nat

def ov {β : Type} (u : Nat → Option β) (f : Nat → β) : Nat → β := fun n => match u n with | some v => v | none => f n
def ovS {β : Type} (g : Ent → Nat → Option β) : List Ent → Nat → (Nat → Bool) → (Nat → β) → (Nat → β)
  | [], _, _, f => f
  | e :: es, k, S, f => ovS g es (k + 1) S (if S k then ov (g e) f else f)
def gF (e : Ent) (t : Nat) : Option (Option AV) := if e.dst = some t then some (some e.x) else none
def gH (e : Ent) (r : Nat) : Option (Option Own) := look e.ups r
theorem ov_gH (ups : List (Nat × Option Own)) (f : Nat → Option Own) : ov (look ups) f = applyUps ups f := by
  funext n; simp only [ov, applyUps]; cases look ups n <;> rfl
theorem ov_gF (e : Ent) (f : Nat → Option AV) : ov (gF e) f = updD f e.dst (some e.x) := by
  funext n
  cases h : e.dst with
  | none => simp [ov, gF, h, updD]
  | some k =>
    simp only [ov, gF, h, updD, upd, Option.some.injEq]
    by_cases hk : k = n
    · subst hk; simp
    · have : ¬ n = k := fun e => hk e.symm
      simp [hk, this]

section
variable {β : Type} (g : Ent → Nat → Option β)

theorem ovS_congr (n : Nat) : ∀ (es : List Ent) (k : Nat) (S S' : Nat → Bool) (f f' : Nat → β), (∀ i e, es[i]? = some e → g e n ≠ none → S (k + i) = S' (k + i)) → f n = f' n → ovS g es k S f n = ovS g es k S' f' n
  | [], _, _, _, _, _, _, h => h
  | e :: es, k, S, S', f, f', hs, h => by
    refine ovS_congr n es (k + 1) S S' _ _ (fun i e' he hg => ?_) ?_
    · have := hs (i + 1) e' (by simpa using he) hg
      rwa [show k + 1 + i = k + (i + 1) by omega]
    · cases hg : g e n with
      | none =>
        by_cases h1 : S k = true <;> by_cases h2 : S' k = true <;> simp [h1, h2, ov, hg, h]
      | some v =>
        have := hs 0 e (by simp) (by simp [hg])
        simp only [Nat.add_zero] at this
        rw [this]
        by_cases h2 : S' k = true <;> simp [h2, ov, hg, h]

theorem ov_comm {u u' : Nat → Option β} (h : ∀ n, u n ≠ none → u' n = none) (f : Nat → β) : ov u (ov u' f) = ov u' (ov u f) := by
  funext n
  simp only [ov]
  cases hu : u n with
  | none => rfl
  | some v => rw [h n (by simp [hu])]

theorem ovS_comm (u : Nat → Option β) : ∀ (es : List Ent) (k : Nat) (S : Nat → Bool) (f : Nat → β), (∀ i e, es[i]? = some e → S (k + i) = true → ∀ n, u n ≠ none → g e n = none) → ovS g es k S (ov u f) = ov u (ovS g es k S f)
  | [], _, _, _, _ => rfl
  | e :: es, k, S, f, h => by
    simp only [ovS]
    have ih := fun f => ovS_comm u es (k + 1) S f (fun i e' he hs => h (i + 1) e' (by simpa using he) (by rwa [show k + (i + 1) = k + 1 + i by omega]))
    by_cases hk : S k = true
    · simp only [hk, if_true]
      rw [← ov_comm (fun n hn => h 0 e (by simp) (by simpa using hk) n hn), ih]
    · simp only [hk]
      exact ih f

theorem ovS_all (es : List Ent) (k : Nat) (S S' : Nat → Bool) (f : Nat → β) (h : ∀ i, i < es.length → S (k + i) = S' (k + i)) : ovS g es k S f = ovS g es k S' f := by
  funext n
  refine ovS_congr g n es k S S' f f (fun i e he _ => h i ?_) rfl
  exact (List.getElem?_eq_some_iff.1 he).1

theorem ovS_add : ∀ (es : List Ent) (j k : Nat) (e : Ent) (S S' : Nat → Bool) (f : Nat → β), es[j]? = some e → S (k + j) = false → S' (k + j) = true → (∀ i, i ≠ j → S' (k + i) = S (k + i)) →
    (∀ i e', j < i → es[i]? = some e' → S (k + i) = true → ∀ n, g e n ≠ none → g e' n = none) → ovS g es k S' f = ov (g e) (ovS g es k S f)
  | [], j, _, _, _, _, _, h, _, _, _, _ => by simp at h
  | a :: es, 0, k, e, S, S', f, h, h0, h1, hr, hc => by
    simp only [List.getElem?_cons_zero, Option.some.injEq] at h; subst h
    simp only [Nat.add_zero] at h0 h1
    simp only [ovS, h0, h1, if_true, Bool.false_eq_true, if_false]
    rw [← ovS_comm g (g a) es (k + 1) S f (fun i e' he hs => hc (i + 1) e' (by omega) (by simpa using he) (by rwa [show k + (i + 1) = k + 1 + i by omega]))]
    refine ovS_all g es (k + 1) S' S _ (fun i _ => ?_)
    have := hr (i + 1) (by omega)
    rwa [show k + (i + 1) = k + 1 + i by omega] at this
  | a :: es, j + 1, k, e, S, S', f, h, h0, h1, hr, hc => by
    simp only [ovS]
    have hk : S' k = S k := by have := hr 0 (by omega); simpa using this
    rw [hk]
    refine ovS_add es j (k + 1) e S S' _ (by simpa using h) ?_ ?_ ?_ ?_
    · rwa [show k + 1 + j = k + (j + 1) by omega]
    · rwa [show k + 1 + j = k + (j + 1) by omega]
    · intro i hi
      rw [show k + 1 + i = k + (i + 1) by omega]; exact hr (i + 1) (by omega)
    · intro i e' hi he hs
      exact hc (i + 1) e' (by omega) (by simpa using he) (by rwa [show k + (i + 1) = k + 1 + i by omega])

theorem ovS_append (e : Ent) : ∀ (es : List Ent) (k : Nat) (S : Nat → Bool) (f : Nat → β), ovS g (es ++ [e]) k S f = if S (k + es.length) then ov (g e) (ovS g es k S f) else ovS g es k S f
  | [], k, S, f => by simp [ovS]
  | a :: es, k, S, f => by
    simp only [List.cons_append, ovS, ovS_append e es (k + 1) S, List.length_cons]
    rw [show k + 1 + es.length = k + (es.length + 1) by omega]
end

/-- i must be done ahead of j. -/
inductive Anc (ops : List Oper) : Nat → Nat → Prop
  | one {j : Nat} {o : Oper} {e : Edge} : ops[j]? = some o → e ∈ o.after → Region.binds .any e = true → Anc ops e.on j
  | more {i j : Nat} {o : Oper} {e : Edge} : ops[j]? = some o → e ∈ o.after → Region.binds .any e = true → Anc ops i e.on → Anc ops i j

def ancOne (acc : List Nat) : List Edge → Nat
  | [] => 0
  | e :: es => if Region.binds .any e then ((2 ^ e.on) ||| acc.getD e.on 0) ||| ancOne acc es else ancOne acc es
def ancGo : List Oper → List Nat → List Nat
  | [], acc => acc
  | o :: l, acc => ancGo l (acc ++ [ancOne acc o.after.toList])

def conflict (a b : Ent) : Bool :=
  (match a.dst with | some d => b.slots.contains d || b.dst == some d | none => false) || (match b.dst with | some d => a.slots.contains d | none => false) ||
  a.ups.any (fun p => b.refs.contains p.1 || b.ups.any (fun q => q.1 == p.1)) || b.ups.any (fun p => a.refs.contains p.1)
def chkOne (m : Nat) (b : Ent) : Nat → List Ent → Bool
  | _, [] => true
  | i, a :: as => (!conflict a b || m.testBit i) && chkOne m b (i + 1) as
def ordGo : List Ent → List Nat → List Ent → Bool
  | _, _, [] => true
  | pre, m :: ms, b :: bs => chkOne m b 0 pre && ordGo (pre ++ [b]) ms bs
  | _, [], _ :: _ => false
def edgesOK : Nat → List Oper → Bool
  | _, [] => true
  | j, o :: l => (o.after.toList.all fun e => !Region.binds .any e || decide (e.on < j)) && edgesOK (j + 1) l
def ordOK (ops : List Oper) (es : List Ent) : Bool := edgesOK 0 ops && ordGo [] (ancGo ops []) es

theorem ancOne_spec {ops : List Oper} {acc : List Nat} (hacc : ∀ j i, (acc.getD j 0).testBit i = true → Anc ops i j) {j : Nat} {o : Oper} (hj : ops[j]? = some o) :
    ∀ (es : List Edge) (i : Nat), (∀ e ∈ es, e ∈ o.after) → (ancOne acc es).testBit i = true → Anc ops i j
  | [], i, _, h => by simp [ancOne] at h
  | e :: es, i, hs, h => by
    simp only [ancOne] at h
    split at h
    · rename_i hb
      rw [Nat.testBit_or, Nat.testBit_or, Bool.or_eq_true, Bool.or_eq_true] at h
      rcases h with (h | h) | h
      · rw [Nat.testBit_two_pow] at h
        simp only [decide_eq_true_eq] at h
        subst h
        exact .one hj (hs e (by simp)) hb
      · exact .more hj (hs e (by simp)) hb (hacc _ _ h)
      · exact ancOne_spec hacc hj es i (fun e he => hs e (by simp [he])) h
    · exact ancOne_spec hacc hj es i (fun e he => hs e (by simp [he])) h

theorem ancGo_spec {ops : List Oper} : ∀ (l pre : List Oper) (acc : List Nat), pre ++ l = ops → acc.length = pre.length → (∀ j i, (acc.getD j 0).testBit i = true → Anc ops i j) →
    ∀ j i, ((ancGo l acc).getD j 0).testBit i = true → Anc ops i j
  | [], _, _, _, _, h => h
  | o :: l, pre, acc, hp, hl, h => by
    refine ancGo_spec l (pre ++ [o]) _ (by simpa using hp) (by simp [hl]) ?_
    intro j i hb
    by_cases hj : j < acc.length
    · rw [List.getD_eq_getElem?_getD, List.getElem?_append_left hj, ← List.getD_eq_getElem?_getD] at hb
      exact h j i hb
    · by_cases hj2 : j = acc.length
      · subst hj2
        rw [List.getD_eq_getElem?_getD, List.getElem?_append_right (Nat.le_refl _)] at hb
        simp only [Nat.sub_self, List.getElem?_cons_zero, Option.getD_some] at hb
        refine ancOne_spec h (o := o) ?_ _ i (fun e he => by simpa using he) hb
        rw [← hp, hl]; simp
      · rw [List.getD_eq_getElem?_getD, List.getElem?_eq_none (by simp; omega)] at hb
        simp at hb

theorem chkOne_spec {m : Nat} {b : Ent} : ∀ (as : List Ent) (k : Nat), chkOne m b k as = true → ∀ i a, as[i]? = some a → conflict a b = true → m.testBit (k + i) = true
  | [], _, _, i, a, h, _ => by simp at h
  | c :: as, k, h, i, a, ha, hc => by
    simp only [chkOne, Bool.and_eq_true, Bool.or_eq_true, Bool.not_eq_true'] at h
    cases i with
    | zero =>
      simp only [List.getElem?_cons_zero, Option.some.injEq] at ha; subst ha
      rcases h.1 with h1 | h1
      · rw [hc] at h1; cases h1
      · exact h1
    | succ i =>
      have := chkOne_spec as (k + 1) h.2 i a (by simpa using ha) hc
      rwa [show k + (i + 1) = k + 1 + i by omega]

theorem ordGo_spec : ∀ (bs pre : List Ent) (ms : List Nat), ordGo pre ms bs = true → ∀ i j a b, i < pre.length + j → (pre ++ bs)[i]? = some a → bs[j]? = some b → conflict a b = true → (ms.getD j 0).testBit i = true
  | [], _, _, _, _, _, _, _, _, _, h, _ => by simp at h
  | c :: bs, pre, [], h, _, _, _, _, _, _, _, _ => by simp [ordGo] at h
  | c :: bs, pre, m :: ms, h, i, j, a, b, hi, ha, hb, hc => by
    simp only [ordGo, Bool.and_eq_true] at h
    cases j with
    | zero =>
      simp only [List.getElem?_cons_zero, Option.some.injEq] at hb; subst hb
      rw [List.getElem?_append_left (by omega)] at ha
      have := chkOne_spec pre 0 h.1 i a ha hc
      simpa using this
    | succ j =>
      have := ordGo_spec bs (pre ++ [c]) ms h.2 i j a b (by simp; omega) (by simpa using ha) (by simpa using hb) hc
      simpa using this

theorem edgesOK_spec : ∀ (l : List Oper) (k : Nat), edgesOK k l = true → ∀ j o, l[j]? = some o → ∀ e ∈ o.after, Region.binds .any e = true → e.on < k + j
  | [], _, _, j, o, h => by simp at h
  | c :: l, k, h, j, o, hj => by
    simp only [edgesOK, Bool.and_eq_true] at h
    cases j with
    | zero =>
      simp only [List.getElem?_cons_zero, Option.some.injEq] at hj; subst hj
      intro e he hb
      have := List.all_eq_true.1 h.1 e (by simpa using he)
      simpa [hb] using this
    | succ j =>
      intro e he hb
      have := edgesOK_spec l (k + 1) h.2 j o (by simpa using hj) e he hb
      omega

theorem ordOK_spec {ops : List Oper} {es : List Ent} (h : ordOK ops es = true) :
    (∀ i j a b, i < j → es[i]? = some a → es[j]? = some b → conflict a b = true → Anc ops i j) ∧ (∀ j o, ops[j]? = some o → ∀ e ∈ o.after, Region.binds .any e = true → e.on < j) := by
  simp only [ordOK, Bool.and_eq_true] at h
  refine ⟨fun i j a b hi ha hb hc => ?_, fun j o ho e he hb => by have := edgesOK_spec ops 0 h.1 j o ho e he hb; omega⟩
  exact ancGo_spec ops [] [] rfl rfl (fun j i hh => by simp at hh) j i (ordGo_spec es [] _ h.2 i j a b (by simpa using hi) (by simpa using ha) hb hc)
end Go.Proofs.Ytpiaeckkjdcifaa
