/- The core of the method, part I: calls of Go functions by their contracts. No condition. -/
import Derived.Test.YtpiaeckkjdcifaaCoreH
namespace Go.Proofs.Ytpiaeckkjdcifaa
set_option linter.unusedVariables false
set_option linter.unusedSimpArgs false
open Go

def OwnsRel (w : World) (D : Nat → Prop) (σ : Sig) : List Own → List (Value × List Nat) → Prop
  | [], [] => True
  | o :: os, s :: ss => OwnRel w D σ o s.1 s.2 ∧ OwnsRel w D σ os ss
  | _, _ => False
def noSig : Sig := fun _ => none
def newSig (ns : List (Value × List Nat)) : Sig := fun r => ns[r]?
def ArgsRel (w : World) (D : Nat → Prop) : List Md → List AV → List (Value × List Nat) → List Value → Prop
  | [], [], [], [] => True
  | .m :: ms, xs, s :: ss, v :: vs => v = s.1 ∧ ArgsRel w D ms xs ss vs
  | .v _ :: ms, x :: xs, ss, v :: vs => RelV w D noSig x v ∧ ArgsRel w D ms xs ss vs
  | _, _, _, _ => False
def inB (ss : List (Value × List Nat)) (b : Nat) : Prop := ∃ s ∈ ss, b ∈ s.2
def ApartL (ss : List (Value × List Nat)) : Prop := ∀ (i j : Nat) (s t : Value × List Nat), ss[i]? = some s → ss[j]? = some t → i ≠ j → ∀ b ∈ s.2, b ∉ t.2

structure Moved (w w' : World) (M : Nat → Prop) : Prop where
  block : ∀ k, k < w.heap.size → ¬ M k → w'.heap[k]? = w.heap[k]?
  size : w.heap.size ≤ w'.heap.size
  os : w'.os = w.os
  tape : w'.tape = w.tape
  output : w'.output = w.output
  drawn : w.drawn ≤ w'.drawn

def Callable (P : Program) (f : FuncId) : Prop := ∃ fn, P.funcs[f]? = some fn ∧ (fn.name == "runtime.NumGoroutine") = false ∧ fn.body.isNone = false

def avoid (C : Ctr) (w : World) (A : Nat → Prop) (b : Nat) : Prop := if C.al then A b else b < w.heap.size

/-- One of the results that may come does come. -/
def MeetsR (P : Program) (f : FuncId) (C : Ctr) (rl : List AV → List Own → Option (Prop × (CRes → Prop))) : Prop :=
  ∀ (w : World) (vs : List Value) (args : List AV) (owns : List Own) (ss : List (Value × List Nat)) (A : Nat → Prop) (pre : Prop) (S : CRes → Prop),
    rl args owns = some (pre, S) → pre → cleanL args = true → owns.all cleanO = true → (∀ b, A b → b < w.heap.size ∧ ¬ inB ss b) → (C.al = false → ∀ b, ¬ A b) →
    ArgsRel w (fun b => inB ss b ∨ A b) C.modes args ss vs → OwnsRel w (fun b => inB ss b ∨ A b) noSig owns ss → (∀ b, inB ss b → b < w.heap.size) → ApartL ss →
    Calls P f vs.toArray w fun e w' => ∃ R, S R ∧ ∃ v ns, e = .returned v ∧ Moved w w' (inB ss) ∧ OwnsRel w' (fun b => inB ss b ∨ inB ns b ∨ A b) noSig R.muts ss ∧
      OwnsRel w' (fun b => inB ss b ∨ inB ns b ∨ avoid C w A b) noSig R.new ns ∧ (∀ b, inB ns b → w.heap.size ≤ b ∧ b < w'.heap.size) ∧ ApartL ns ∧
      RelV w' (fun b => inB ss b ∨ inB ns b ∨ avoid C w A b) (newSig ns) R.res v
/-- What a contract with one result says. -/
def runR (C : Ctr) : List AV → List Own → Option (Prop × (CRes → Prop)) := fun xs os => (C.run xs os).map fun R => (R.pre, fun R' => R' = R)
/-- The function does what its contract says, in whatever world. -/
def Meets (P : Program) (f : FuncId) (C : Ctr) : Prop :=
  Callable P f ∧ MeetsR P f C (runR C) ∧ ∀ rl, C.rel = some rl → MeetsR P f C rl

theorem OwnsRel.length {w : World} {D : Nat → Prop} {σ : Sig} : ∀ {os : List Own} {ss : List (Value × List Nat)}, OwnsRel w D σ os ss → os.length = ss.length
  | [], [], _ => rfl
  | _ :: _, _ :: _, h => by simp [OwnsRel.length h.2]
  | [], _ :: _, h => h.elim
  | _ :: _, [], h => h.elim
theorem OwnsRel.get {w : World} {D : Nat → Prop} {σ : Sig} : ∀ {os : List Own} {ss : List (Value × List Nat)} (i : Nat) (o : Own), OwnsRel w D σ os ss → os[i]? = some o → ∃ s, ss[i]? = some s ∧ OwnRel w D σ o s.1 s.2
  | [], [], i, o, _, h => by simp at h
  | x :: xs, s :: ss, 0, o, h, ho => by simp at ho; subst ho; exact ⟨s, rfl, h.1⟩
  | x :: xs, s :: ss, i + 1, o, h, ho => by simp at ho; simpa using OwnsRel.get i o h.2 ho
  | [], _ :: _, _, _, h, _ => h.elim
  | _ :: _, [], _, _, h, _ => h.elim
theorem OwnsRel.of {w : World} {D : Nat → Prop} {σ : Sig} : ∀ (os : List Own) (ss : List (Value × List Nat)), os.length = ss.length → (∀ (i : Nat) (o : Own) (s : Value × List Nat), os[i]? = some o → ss[i]? = some s → OwnRel w D σ o s.1 s.2) → OwnsRel w D σ os ss
  | [], [], _, _ => trivial
  | x :: xs, s :: ss, hl, h => ⟨h 0 x s rfl rfl, OwnsRel.of xs ss (by simpa using hl) (fun i o t h1 h2 => h (i + 1) o t (by simpa using h1) (by simpa using h2))⟩
  | [], _ :: _, hl, _ => by simp at hl
  | _ :: _, [], hl, _ => by simp at hl

mutual
theorem RelV.ren {w : World} {D : Nat → Prop} {σ1 σ2 : Sig} {f : Nat → Nat} {n : Nat} (h : ∀ r, r < n → ∀ s, σ2 (f r) = some s → σ1 r = some s) : ∀ (x : AV) (v : Value), boundV n x = true → RelV w D σ1 x v → RelV w D σ2 (renV f x) v
  | .int _, _, _, hx => hx
  | .u8 _, _, _, hx => hx
  | .bool _, _, _, hx => hx
  | .val _, _, _, hx => hx
  | .junk, _, hc, _ => by simp [boundV] at hc
  | .nils, _, _, hx => hx
  | .rs _ _, _, _, hx => hx
  | .rows _, _, _, hx => hx
  | .agg fs, _, hc, ⟨cs, hv, hl⟩ => by simp only [renV]; exact ⟨cs, hv, RelL.ren h fs cs (by simpa [boundV] using hc) hl⟩
  | .tup fs, _, hc, ⟨cs, hv, hl⟩ => by simp only [renV]; exact ⟨cs, hv, RelL.ren h fs cs (by simpa [boundV] using hc) hl⟩
  | .rp fs, _, hc, ⟨hne, b, off, us, hv, hD, hcl, hl⟩ => by
    simp only [renV]
    refine ⟨?_, b, off, us, hv, hD, hcl, RelL.ren h fs us (by simpa [boundV] using hc) hl⟩
    cases fs with
    | nil => exact absurd rfl hne
    | cons y ys => simp [renL]
  | .sl r, v, hc, hx => by
    simp only [boundV, decide_eq_true_eq] at hc
    simp only [renV]
    intro s bs hs; exact hx s bs (h r hc _ hs)
  | .op r off, v, hc, hx => by
    simp only [boundV, decide_eq_true_eq] at hc
    simp only [renV]
    intro s bs hs; exact hx s bs (h r hc _ hs)
  | .oe _ _ _ _, _, hc, _ => by simp [boundV] at hc
  | .clo g caps, _, hc, ⟨cs, hv, hl⟩ => by simp only [renV]; exact ⟨cs, hv, RelL.ren h caps cs (by simpa [boundV] using hc) hl⟩
  | .when _ _, _, hc, _ => by simp [boundV] at hc
theorem RelL.ren {w : World} {D : Nat → Prop} {σ1 σ2 : Sig} {f : Nat → Nat} {n : Nat} (h : ∀ r, r < n → ∀ s, σ2 (f r) = some s → σ1 r = some s) : ∀ (xs : List AV) (vs : List Value), boundL n xs = true → RelL w D σ1 xs vs → RelL w D σ2 (renL f xs) vs
  | [], _, _, hl => hl
  | x :: xs, _, hc, ⟨v, vs', hv, hx, hl⟩ => by
    simp only [boundL, Bool.and_eq_true] at hc
    simp only [renL]
    exact ⟨v, vs', hv, RelV.ren h x v hc.1 hx, RelL.ren h xs vs' hc.2 hl⟩
end

section
variable {E : Env} {fr : Nat → Option AV} {H : Nat → Option Own} {Kn : Nat → Prop} {σ : Sig} {a : Act} {w w' : World} {o : Oper} {nx : Nat}

def lent (σ : Sig) (os : List (Nat × Own)) : List (Value × List Nat) := os.map fun p => (σ p.1).getD (undef, [])

theorem dom_weak {D D' : Nat → Prop} {s1 s2 : Sig} (h : ∀ b, D' b → D b) (hs : ∀ r, s2 r = s1 r ∨ s2 r = none) : Stab w D s1 w D' s2 := ⟨fun _ _ hc _ => hc, fun b hb _ hd => hb (h b hd), hs⟩

/-- What is owned may be read for the while of a call. -/
theorem snap_flat {D : Nat → Prop} {e : TypeId} {τ : FT} {xs : List τ.T} {s : Value} {bs : List Nat} {D0 : Nat → Prop} {σ0 : Sig} (h : OwnRel w D0 σ0 (.sl e τ xs) s bs) (hD : ∀ b ∈ bs, ¬ D b) : ROflat w D τ xs s := by
  obtain ⟨hown, hbs⟩ := h
  rcases hown.2 with ⟨h1, h2⟩ | ⟨g, cap, cur, h1, _, hg, hn, hm, hc, ht⟩
  · exact .inl ⟨List.eq_nil_of_length_eq_zero h2, none, 0, by rw [h1]⟩
  · refine .inr ⟨g, 0, cap, h1, hn, hm, hD g (by rw [hbs, h1]; simp [Value.blk]), fun i u hu => ?_⟩
    have hu' := hu
    rw [← ht, List.getElem?_take] at hu'
    split at hu'
    · rw [cell_of_row w g _ cur e (0, 0) hg, Nat.zero_add]; simpa using hu'
    · cases hu'
theorem snap_rows {D : Nat → Prop} {e : TypeId} {xss : List (List Int)} {s : Value} {bs : List Nat} {D0 : Nat → Prop} {σ0 : Sig} (h : OwnRel w D0 σ0 (.rows e xss) s bs) (hD : ∀ b ∈ bs, ¬ D b) (hDD : ∀ b, D b → D0 b) : ROrows w D xss s := by
  obtain ⟨us, hown, hbs, h1, hrow⟩ := h
  have hul : us.length = xss.length := by have := hown.1; simpa using this
  rcases hown.2 with ⟨h3, h2⟩ | ⟨g, cap, cur, h3, _, hg, hn, hm, hc, ht⟩
  · exact .inl ⟨List.eq_nil_of_length_eq_zero h2, none, 0, by rw [h3]⟩
  · refine .inr ⟨g, 0, cap, us, h3, hn, hm, hD g (by rw [hbs, h3]; simp [Value.blk]), hul, fun i u hu => ?_, fun i u xs hu hxs => ?_⟩
    · have hu' := hu
      rw [← ht, List.getElem?_take] at hu'
      split at hu'
      · rw [cell_of_row w g _ cur e (0, 0) hg, Nat.zero_add]; simpa using hu'
      · cases hu'
    · exact ROflat.stab (σ := σ0) (σ' := σ0) (dom_weak hDD (fun _ => .inl rfl)) (hrow i u xs hu hxs)
theorem snap_mat {D : Nat → Prop} {e e' : TypeId} {xss : List (List Int)} {s : Value} {bs : List Nat} {D0 : Nat → Prop} {σ0 : Sig} (h : OwnRel w D0 σ0 (.mat e e' xss) s bs) (hD : ∀ b ∈ bs, ¬ D b) : ROrows w D xss s := by
  obtain ⟨us, bss, hown, hbs, hbl, hnd, hrow⟩ := h
  have hul : us.length = xss.length := by have := hown.1; simpa using this
  rcases hown.2 with ⟨h3, h2⟩ | ⟨g, cap, cur, h3, _, hg, hn, hm, hc, ht⟩
  · exact .inl ⟨List.eq_nil_of_length_eq_zero h2, none, 0, by rw [h3]⟩
  · refine .inr ⟨g, 0, cap, us, h3, hn, hm, hD g (by rw [hbs, h3]; simp [Value.blk]), hul, fun i u hu => ?_, fun i u xs hu hxs => ?_⟩
    · have hu' := hu
      rw [← ht, List.getElem?_take] at hu'
      split at hu'
      · rw [cell_of_row w g _ cur e (0, 0) hg, Nat.zero_add]; simpa using hu'
      · cases hu'
    · have hi : i < bss.length := by rw [hbl]; exact (List.getElem?_eq_some_iff.1 hxs).1
      obtain ⟨h6, h7⟩ := hrow i u xs _ hu hxs (List.getElem?_eq_getElem hi)
      refine snap_flat (e := e') (τ := .i64) (D0 := D0) (σ0 := σ0) (bs := Value.blk u) ⟨by rw [show xs.flatMap (FT.vals .i64) = xs.map (Value.int .i64) from (List.map_eq_flatMap (f := Value.int .i64) (l := xs)).symm]; exact h6, rfl⟩ (fun b hb => hD b ?_)
      rw [hbs]
      exact List.mem_append_right _ (List.mem_flatten.2 ⟨_, List.getElem_mem hi, by rw [h7]; exact hb⟩)

theorem conv_sound (F : Fits E fr H Kn σ a w) (al : Bool) {D : Nat → Prop} (hD1 : ∀ b, D b → E.D σ b) (hal : al = false → ∀ r s bs, σ r = some (s, bs) → (∃ o, H r = some o) → True) :
    ∀ (ms : List Md) (xs : List AV) (vs : List Value) (as : List AV) (os : List (Nat × Own)) (sn : List Nat), conv al H ms xs = some (as, os, sn) → RelL w (E.D σ) σ xs vs →
      (∀ r ∈ sn, ∀ s bs, σ r = some (s, bs) → ∀ b ∈ bs, ¬ D b) → ArgsRel w D ms as (lent σ os) vs ∧ ∀ p ∈ os, H p.1 = some p.2
  | [], [], vs, as, os, sn, h, hr, _ => by
    have hr : vs = [] := hr
    simp only [conv, Option.some.injEq, Prod.mk.injEq] at h
    obtain ⟨rfl, rfl, rfl⟩ := h
    subst hr
    exact ⟨trivial, by simp⟩
  | [], _ :: _, vs, as, os, sn, h, _, _ => by simp [conv] at h
  | .v .p :: ms, x :: xs, vs, as, os, sn, h, ⟨v, vs', hv, hx, hl⟩, hsn => by
    subst hv
    simp only [conv] at h
    split at h
    · rename_i hc
      cases hq : conv al H ms xs with
      | none => simp [hq] at h
      | some q =>
        obtain ⟨q1, q2, q3⟩ := q
        simp only [hq, Option.map_some, Option.some.injEq, Prod.mk.injEq] at h
        obtain ⟨rfl, rfl, rfl⟩ := h
        obtain ⟨h1, h2⟩ := conv_sound F al hD1 hal ms xs vs' q1 q2 q3 hq hl hsn
        exact ⟨⟨RelV.clean σ noSig x v hc (RelV.stab (dom_weak hD1 (fun _ => .inl rfl)) x v hx), h1⟩, h2⟩
    · cases h
  | .v (.r τ) :: ms, x :: xs, vs, as, os, sn, h, ⟨v, vs', hv, hx, hl⟩, hsn => by
    subst hv
    simp only [conv] at h
    split at h
    · cases hq : conv al H ms xs with
      | none => simp [hq] at h
      | some q =>
        obtain ⟨q1, q2, q3⟩ := q
        simp only [hq, Option.map_some, Option.some.injEq, Prod.mk.injEq] at h
        obtain ⟨rfl, rfl, rfl⟩ := h
        obtain ⟨h1, h2⟩ := conv_sound F al hD1 hal ms xs vs' q1 q2 q3 hq hl hsn
        exact ⟨⟨RelV.clean σ noSig _ v rfl (RelV.stab (dom_weak hD1 (fun _ => .inl rfl)) _ v hx), h1⟩, h2⟩
    · cases hq : conv al H ms xs with
      | none => simp [hq] at h
      | some q =>
        obtain ⟨q1, q2, q3⟩ := q
        simp only [hq, Option.map_some, Option.some.injEq, Prod.mk.injEq] at h
        obtain ⟨rfl, rfl, rfl⟩ := h
        obtain ⟨h1, h2⟩ := conv_sound F al hD1 hal ms xs vs' q1 q2 q3 hq hl hsn
        exact ⟨⟨.inl ⟨rfl, none, 0, hx⟩, h1⟩, h2⟩
    · split at h
      · cases h
      · split at h
        · rename_i r _ _ e τ' ys hH
          cases hq : conv al H ms xs with
          | none => simp [hq] at h
          | some q =>
            obtain ⟨q1, q2, q3⟩ := q
            simp only [hq, Option.map_some, Option.some.injEq, Prod.mk.injEq] at h
            obtain ⟨rfl, rfl, rfl⟩ := h
            obtain ⟨h1, h2⟩ := conv_sound F al hD1 hal ms xs vs' q1 q2 q3 hq hl (fun r' hr' => hsn r' (List.mem_cons_of_mem _ hr'))
            obtain ⟨s, bs, h3, h4⟩ := F.heap r _ hH
            have hv : v = s := hx s bs h3
            subst hv
            exact ⟨⟨snap_flat (h4 σ fun _ _ => rfl) (hsn r (by simp) v bs h3), h1⟩, h2⟩
        · cases h
    · cases h
  | .v .rr :: ms, x :: xs, vs, as, os, sn, h, ⟨v, vs', hv, hx, hl⟩, hsn => by
    subst hv
    simp only [conv] at h
    split at h
    · cases hq : conv al H ms xs with
      | none => simp [hq] at h
      | some q =>
        obtain ⟨q1, q2, q3⟩ := q
        simp only [hq, Option.map_some, Option.some.injEq, Prod.mk.injEq] at h
        obtain ⟨rfl, rfl, rfl⟩ := h
        obtain ⟨h1, h2⟩ := conv_sound F al hD1 hal ms xs vs' q1 q2 q3 hq hl hsn
        exact ⟨⟨RelV.clean σ noSig _ v rfl (RelV.stab (dom_weak hD1 (fun _ => .inl rfl)) _ v hx), h1⟩, h2⟩
    · cases hq : conv al H ms xs with
      | none => simp [hq] at h
      | some q =>
        obtain ⟨q1, q2, q3⟩ := q
        simp only [hq, Option.map_some, Option.some.injEq, Prod.mk.injEq] at h
        obtain ⟨rfl, rfl, rfl⟩ := h
        obtain ⟨h1, h2⟩ := conv_sound F al hD1 hal ms xs vs' q1 q2 q3 hq hl hsn
        exact ⟨⟨.inl ⟨rfl, none, 0, hx⟩, h1⟩, h2⟩
    · split at h
      · cases h
      · split at h
        · rename_i r _ _ e ys hH
          cases hq : conv al H ms xs with
          | none => simp [hq] at h
          | some q =>
            obtain ⟨q1, q2, q3⟩ := q
            simp only [hq, Option.map_some, Option.some.injEq, Prod.mk.injEq] at h
            obtain ⟨rfl, rfl, rfl⟩ := h
            obtain ⟨h1, h2⟩ := conv_sound F al hD1 hal ms xs vs' q1 q2 q3 hq hl (fun r' hr' => hsn r' (List.mem_cons_of_mem _ hr'))
            obtain ⟨s, bs, h3, h4⟩ := F.heap r _ hH
            have hv : v = s := hx s bs h3
            subst hv
            exact ⟨⟨snap_rows (h4 σ fun _ _ => rfl) (hsn r (by simp) v bs h3) hD1, h1⟩, h2⟩
        · rename_i r _ _ e e' ys hH
          cases hq : conv al H ms xs with
          | none => simp [hq] at h
          | some q =>
            obtain ⟨q1, q2, q3⟩ := q
            simp only [hq, Option.map_some, Option.some.injEq, Prod.mk.injEq] at h
            obtain ⟨rfl, rfl, rfl⟩ := h
            obtain ⟨h1, h2⟩ := conv_sound F al hD1 hal ms xs vs' q1 q2 q3 hq hl (fun r' hr' => hsn r' (List.mem_cons_of_mem _ hr'))
            obtain ⟨s, bs, h3, h4⟩ := F.heap r _ hH
            have hv : v = s := hx s bs h3
            subst hv
            exact ⟨⟨snap_mat (h4 σ fun _ _ => rfl) (hsn r (by simp) v bs h3), h1⟩, h2⟩
        · cases h
    · cases h
  | .m :: ms, x :: xs, vs, as, os, sn, h, ⟨v, vs', hv, hx, hl⟩, hsn => by
    subst hv
    simp only [conv] at h
    have fin : ∀ (r : Nat) (ow : Own), H r = some ow → (∀ s bs, σ r = some (s, bs) → v = s) → ((conv al H ms xs).map fun q => (q.1, (r, ow) :: q.2.1, q.2.2)) = some (as, os, sn) →
        ArgsRel w D (.m :: ms) as (lent σ os) (v :: vs') ∧ ∀ p ∈ os, H p.1 = some p.2 := by
      intro r ow hH hv h
      cases hq : conv al H ms xs with
      | none => simp [hq] at h
      | some q =>
        obtain ⟨q1, q2, q3⟩ := q
        simp only [hq, Option.map_some, Option.some.injEq, Prod.mk.injEq] at h
        obtain ⟨rfl, rfl, rfl⟩ := h
        obtain ⟨h1, h2⟩ := conv_sound F al hD1 hal ms xs vs' q1 q2 q3 hq hl hsn
        obtain ⟨s, bs, h3, h4⟩ := F.heap r _ hH
        refine ⟨⟨?_, h1⟩, ?_⟩
        · simp only [h3, Option.getD_some]; exact hv s bs h3
        · intro p hp
          rcases List.mem_cons.1 hp with rfl | hp
          · exact hH
          · exact h2 p hp
    split at h
    · rename_i r
      split at h
      · rename_i ow hH; exact fin r ow hH (fun s bs hs => hx s bs hs) h
      · cases h
    · rename_i r
      split at h
      · rename_i ow hH
        refine fin r ow hH (fun s bs hs => ?_) h
        obtain ⟨b, h1, h2⟩ := hx s bs hs
        rw [h1, h2]
      · cases h
    · cases h
  | .v .p :: _, [], _, _, _, _, h, _, _ => by simp [conv] at h
  | .v (.r _) :: _, [], _, _, _, _, h, _, _ => by simp [conv] at h
  | .v .rr :: _, [], _, _, _, _, h, _, _ => by simp [conv] at h
  | .m :: _, [], _, _, _, _, h, _, _ => by simp [conv] at h


theorem conv_clean (al : Bool) (H : Nat → Option Own) : ∀ (ms : List Md) (xs : List AV) (as : List AV) (os : List (Nat × Own)) (sn : List Nat), conv al H ms xs = some (as, os, sn) → cleanL as = true := by
  intro ms
  induction ms with
  | nil =>
    intro xs as os sn h
    cases xs <;> simp [conv] at h
    obtain ⟨rfl, _⟩ := h; rfl
  | cons md ms ih =>
    intro xs as os sn h
    cases xs with
    | nil => cases md with
      | m => simp [conv] at h
      | v k => cases k <;> simp [conv] at h
    | cons x xs =>
      have fin : ∀ (y : AV) (sn' : List Nat → List Nat), cleanV y = true → ((conv al H ms xs).map fun q => (y :: q.1, q.2.1, sn' q.2.2)) = some (as, os, sn) → cleanL as = true := by
        intro y sn' hy h
        rw [Option.map_eq_some_iff] at h
        obtain ⟨⟨q1, q2, q3⟩, hq, he⟩ := h
        simp only [Prod.mk.injEq] at he
        obtain ⟨rfl, _⟩ := he
        simp [cleanL, hy, ih xs q1 q2 q3 hq]
      have fin2 : ∀ (p : Nat × Own), ((conv al H ms xs).map fun q => (q.1, p :: q.2.1, q.2.2)) = some (as, os, sn) → cleanL as = true := by
        intro p h
        rw [Option.map_eq_some_iff] at h
        obtain ⟨⟨q1, q2, q3⟩, hq, he⟩ := h
        simp only [Prod.mk.injEq] at he
        obtain ⟨rfl, _⟩ := he
        exact ih xs q1 q2 q3 hq
      cases md with
      | m =>
        simp only [conv] at h
        split at h
        · split at h
          · exact fin2 _ h
          · cases h
        · split at h
          · exact fin2 _ h
          · cases h
        · cases h
      | v k =>
        cases k with
        | p =>
          simp only [conv] at h
          split at h
          · rename_i hc; exact fin x id hc h
          · cases h
        | r τ =>
          simp only [conv] at h
          split at h
          · exact fin _ id rfl h
          · exact fin _ id rfl h
          · split at h
            · cases h
            · split at h
              · exact fin _ (fun s => _ :: s) rfl h
              · cases h
          · cases h
        | rr =>
          simp only [conv] at h
          split at h
          · exact fin _ id rfl h
          · exact fin _ id rfl h
          · split at h
            · cases h
            · split at h
              · exact fin _ (fun s => _ :: s) rfl h
              · exact fin _ (fun s => _ :: s) rfl h
              · cases h
          · cases h

end
end Go.Proofs.Ytpiaeckkjdcifaa
