/- The core of the method, part M: the rules for code, for loops, and for a function. No condition. -/
import Derived.Test.YtpiaeckkjdcifaaCoreL
namespace Go.Proofs.Ytpiaeckkjdcifaa
set_option linter.unusedVariables false
set_option linter.unusedSimpArgs false
open Go

/-- Code, from an abstract state. -/
def W (E : Env) (c : Code) (st : AState) (Q : Exit → AState → Prop) : Prop :=
  ∀ a w, FitsS E st a w → c.wp E.P (fun e a' w' => ∃ st', FitsS E st' a' w' ∧ Q e st') a w

def thenQ (K : AState → Prop) (Q : Exit → AState → Prop) : Exit → AState → Prop
  | .normal, s => K s
  | e, s => Q e s
def blockQ (id : Nat) (Q : Exit → AState → Prop) : Exit → AState → Prop
  | .exit id', s => if id' = id then Q .normal s else Q (.exit id') s
  | e, s => Q e s

section
variable {E : Env} {st : AState} {Q : Exit → AState → Prop}

theorem W_seq {x y : Code} (h : ∀ K : AState → Prop, (∀ s, W E y s Q → K s) → W E x st (thenQ K Q)) : W E (.seq x y) st Q := by
  intro a w F
  refine wp_seq (wp_mono (h (fun s => W E y s Q) (fun _ h => h) a w F) ?_)
  rintro e a' w' ⟨st', F', hq⟩
  cases e with
  | normal => exact hq a' w' F'
  | _ => exact ⟨st', F', hq⟩
theorem W_skip (h : Q .normal st) : W E .skip st Q := fun a w F => wp_skip ⟨st, F, h⟩
theorem W_exit {id : Nat} (h : Q (.exit id) st) : W E (.exit id) st Q := fun a w F => wp_exit ⟨st, F, h⟩
theorem W_ret (h : Q .ret st) : W E .ret st Q := fun a w F => wp_ret ⟨st, F, h⟩
theorem W_block {id : Nat} {c : Code} (h : W E c st (blockQ id Q)) : W E (.block id c) st Q := by
  intro a w F
  refine wp_block (wp_mono (h a w F) ?_)
  rintro e a' w' ⟨st', F', hq⟩
  cases e with
  | exit id' =>
    simp only [Exit.inBlock]
    simp only [blockQ] at hq
    split
    · rename_i hid; rw [if_pos hid] at hq; exact ⟨st', F', hq⟩
    · rename_i hid; rw [if_neg hid] at hq; exact ⟨st', F', hq⟩
  | _ => exact ⟨st', F', hq⟩
theorem W_cond {c : Operand} {x y : Code} {b : Bool} (hc : evA (look st.fr) c = some (.bool b)) (ht : b = true → W E x st Q) (hf : b = false → W E y st Q) : W E (.cond c x y) st Q := by
  intro a w F
  obtain ⟨σ, F0⟩ := F
  have hv : a.eval c = .bool b := (evA_sound F0 c _ hc).self
  refine wp_cond_split hv (fun h => ht h a w ⟨σ, F0⟩) (fun h => hf h a w ⟨σ, F0⟩)
theorem W_mono {c : Code} {Q' : Exit → AState → Prop} (h : W E c st Q) (hq : ∀ e s, Q e s → Q' e s) : W E c st Q' := fun a w F =>
  wp_mono (h a w F) (fun e a' w' ⟨s, F', q⟩ => ⟨s, F', hq e s q⟩)
theorem W_weak {c : Code} {st' : AState} (h : ∀ a w, FitsS E st a w → FitsS E st' a w) (hw : W E c st' Q) : W E c st Q := fun a w F => hw a w (h a w F)

theorem wp_loop_n {P : Program} {c : Code} {Q : Exit → Act → World → Prop} {a : Act} {w : World} (J : Nat → Act → World → Prop) (n0 : Nat) (h0 : J n0 a w)
    (round : ∀ n a w, J n a w → c.wp P (Exit.then (fun a' w' => ∃ m, m < n ∧ J m a' w') Q) a w) : (Code.loop c).wp P Q a w := by
  intro b k cs
  have key : ∀ n a w, J n a w → ∃ e a' w', Q e a' w' ∧ Arrives P (lone (b.at a (.code c :: .inLoop c :: k)) cs w) b k cs e a' w' := by
    intro n
    induction n using Nat.strongRecOn with
    | _ n ih =>
      intro a w hI
      obtain ⟨e, a₁, w₁, hq, harr⟩ := round n a w hI b (.inLoop c :: k) cs
      cases e with
      | normal =>
        obtain ⟨m, hlt, hI₁⟩ := hq
        obtain ⟨e₂, a₂, w₂, hq₂, harr₂⟩ := ih m hlt a₁ w₁ hI₁
        exact ⟨e₂, a₂, w₂, hq₂, .of_steps (Steps.trans harr (.one step_inLoop)) harr₂⟩
      | exit id => exact ⟨_, a₁, w₁, hq, .pass (x := .inLoop c) rfl (fun _ _ => .inl (by simp)) harr⟩
      | goto l => exact ⟨_, a₁, w₁, hq, .pass (x := .inLoop c) rfl (fun _ _ => .inl (by simp)) harr⟩
      | ret => exact ⟨_, a₁, w₁, hq, .pass (x := .inLoop c) rfl (fun _ _ => .inl (by simp)) harr⟩
      | panic ch => exact ⟨_, a₁, w₁, hq, .pass (x := .inLoop c) rfl (fun _ _ => .inl (by simp)) harr⟩
      | outgrown => exact ⟨_, a₁, w₁, hq, .pass (x := .inLoop c) rfl (fun _ _ => .inl (by simp)) harr⟩
  obtain ⟨e, a', w', hq, harr⟩ := key n0 a w h0
  exact ⟨e, a', w', hq, .of_steps (.one step_loop) harr⟩

end

/-- What is kept of a state where a loop begins anew. -/
inductive Kp where
  | as | own (e : TypeId) (τ : FT) | ownr (e : TypeId) | var | fz (τ : FT) | fzv | fzr

def reOne (st : AState) (t : Nat) (k : Kp) : Option (AV × Option Own × Option Nat) :=
  match look st.fr t with
  | none => none
  | some x => match k with
    | .as => if cleanV x then some (x, none, none) else none
    | .own e τ => (match x with
      | .nils => some (.sl t, some (.sl e τ []), none)
      | .sl r => (match applyUps st.H noH r with
        | some (.sl e' τ' xs) => if e' = e ∧ τ' = τ then some (.sl t, some (.sl e' τ' xs), some r) else none
        | _ => none)
      | _ => none)
    | .ownr e => (match x with
      | .nils => some (.sl t, some (.rows e []), none)
      | .sl r => (match applyUps st.H noH r with
        | some (.rows e' xs) => if e' = e then some (.sl t, some (.rows e' xs), some r) else none
        | some (.mat e1 e2 xs) => if e1 = e then some (.sl t, some (.mat e1 e2 xs), some r) else none
        | _ => none)
      | _ => none)
    | .var => (match x with
      | .op r 0 => (match applyUps st.H noH r with
        | some (.var cs) => if cleanL cs then some (.op t 0, some (.var cs), some r) else none
        | _ => none)
      | _ => none)
    | .fz τ => (match x with
      | .nils => some (.rs τ [], none, none)
      | .rs τ' xs => if τ' = τ then some (.rs τ' xs, none, none) else none
      | .sl r => (match applyUps st.H noH r with
        | some (.sl _ τ' xs) => if τ' = τ then some (.rs τ' xs, none, some r) else none
        | _ => none)
      | _ => none)
    | .fzv => (match x with
      | .op r 0 => (match applyUps st.H noH r with
        | some (.var cs) => if cleanL cs = true ∧ cs.isEmpty = false then some (.rp cs, none, some r) else none
        | _ => none)
      | _ => none)
    | .fzr => (match x with
      | .nils => some (.rows [], none, none)
      | .rows xs => some (.rows xs, none, none)
      | .sl r => (match applyUps st.H noH r with
        | some (.rows _ xs) => some (.rows xs, none, some r)
        | some (.mat _ _ xs) => some (.rows xs, none, some r)
        | _ => none)
      | _ => none)

/-- The slots that are kept, what they own under their own numbers, and the names that this uses up. -/
def lentOK (np t : Nat) (o : Option Own) (r : Option Nat) : Bool := o.isNone || decide (np ≤ t) || (r == some t)
def reAll (st : AState) : List (Nat × Kp) → Option (List (Nat × AV) × List (Nat × Option Own) × List Nat)
  | [] => some ([], [], [])
  | (t, k) :: l => match reOne st t k, reAll st l with
    | some (x, o, r), some (fr, H, rs) => some ((t, x) :: fr, (match o with | some o => (t, some o) :: H | none => H), (match r with | some r => r :: rs | none => rs))
    | _, _ => none

def reshape (nt np : Nat) (sp : List (Nat × Kp)) (st : AState) : Option AState :=
  match reAll st sp with
  | some (fr, H, rs) => if rs.Nodup ∧ (sp.map (·.1)).Nodup ∧ (sp.all fun p => decide (p.1 < nt) && (match reOne st p.1 p.2 with | some (_, o, r) => lentOK np p.1 o r | none => true)) = true ∧ np ≤ nt then some ⟨fr, H, nt⟩ else none
  | none => none

section
variable {E : Env} {st st' : AState} {Q : Exit → AState → Prop} {a : Act} {w : World} {σ : Sig}

/-- What one kept slot says. -/
def ReOK (E : Env) (σ : Sig) (st : AState) (a : Act) (w : World) (t : Nat) (x : AV) (o : Option Own) (r : Option Nat) : Prop :=
  (∀ y, r = some y → ∃ s bs, σ y = some (s, bs) ∧ y < st.nx) ∧
  (match o with
   | none => (cleanV x = true ∧ r = none ∧ RelV w (E.D σ) σ x (a.tmps.getD t undef)) ∨ (∃ y s bs, cleanV x = true ∧ r = some y ∧ σ y = some (s, bs) ∧ a.tmps.getD t undef = s ∧ ∀ D : Nat → Prop, (∀ b ∈ bs, ¬ D b) → (∀ b, D b → E.D σ b) → RelV w D σ x s)
   | some ow => ∃ s bs, ((r = none ∧ bs = []) ∨ ∃ y, r = some y ∧ σ y = some (s, bs)) ∧ cleanO ow = true ∧ (∀ D : Nat → Prop, (∀ b, D b → E.D σ b) → OwnRel w D σ ow s bs) ∧ ((x = .sl t ∧ a.tmps.getD t undef = s) ∨ (x = .op t 0 ∧ a.tmps.getD t undef = s ∧ ∃ b, s = .pointer (some ⟨b, 0, none⟩))))

theorem reOne_sound (F : Fits E (look st.fr) (applyUps st.H noH) (fun r => r < st.nx) σ a w) (t : Nat) (k : Kp) (x : AV) (o : Option Own) (r : Option Nat) (h : reOne st t k = some (x, o, r)) : ReOK E σ st a w t x o r := by
  unfold reOne at h
  split at h
  · cases h
  · rename_i y hy
    have hk := F.frame t y hy σ (fun _ _ => rfl)
    split at h
    · split at h
      · rename_i hc
        simp only [Option.some.injEq, Prod.mk.injEq] at h
        obtain ⟨rfl, rfl, rfl⟩ := h
        exact ⟨fun _ h => (by cases h), .inl ⟨hc, rfl, hk⟩⟩
      · cases h
    · rename_i e τ
      split at h
      · simp only [Option.some.injEq, Prod.mk.injEq] at h
        obtain ⟨rfl, rfl, rfl⟩ := h
        exact ⟨fun _ h => (by cases h), .slice none 0 0, [], .inl ⟨rfl, rfl⟩, rfl, fun _ _ => ⟨World.ownsRow_nil _ _ _ _, rfl⟩, .inl ⟨rfl, hk⟩⟩
      · split at h
        · rename_i r0 e' τ' xs hH
          split at h
          · simp only [Option.some.injEq, Prod.mk.injEq] at h
            obtain ⟨rfl, rfl, rfl⟩ := h
            obtain ⟨s, bs, h1, h2⟩ := F.heap _ _ hH
            exact ⟨fun y hy => (by cases hy; exact ⟨s, bs, h1, F.kn hH⟩), s, bs, .inr ⟨_, rfl, h1⟩, rfl, fun _ _ => h2 σ (fun _ _ => rfl), .inl ⟨rfl, hk s bs h1⟩⟩
          · cases h
        · cases h
      · cases h
    · rename_i e
      split at h
      · simp only [Option.some.injEq, Prod.mk.injEq] at h
        obtain ⟨rfl, rfl, rfl⟩ := h
        exact ⟨fun _ h => (by cases h), .slice none 0 0, [], .inl ⟨rfl, rfl⟩, rfl, fun _ _ => ⟨[], World.ownsRow_nil _ _ _ _, rfl, by simp, by simp⟩, .inl ⟨rfl, hk⟩⟩
      · split at h
        · rename_i r0 e' xs hH
          split at h
          · simp only [Option.some.injEq, Prod.mk.injEq] at h
            obtain ⟨rfl, rfl, rfl⟩ := h
            obtain ⟨s, bs, h1, h2⟩ := F.heap _ _ hH
            exact ⟨fun y hy => (by cases hy; exact ⟨s, bs, h1, F.kn hH⟩), s, bs, .inr ⟨_, rfl, h1⟩, rfl, fun D hD => OwnRel.stab (dom_weak hD (fun _ => .inl rfl)) (fun _ _ => rfl) (h2 σ (fun _ _ => rfl)), .inl ⟨rfl, hk s bs h1⟩⟩
          · cases h
        · rename_i r0 e1 e2 xs hH
          split at h
          · simp only [Option.some.injEq, Prod.mk.injEq] at h
            obtain ⟨rfl, rfl, rfl⟩ := h
            obtain ⟨s, bs, h1, h2⟩ := F.heap _ _ hH
            exact ⟨fun y hy => (by cases hy; exact ⟨s, bs, h1, F.kn hH⟩), s, bs, .inr ⟨_, rfl, h1⟩, rfl, fun D hD => OwnRel.stab (dom_weak hD (fun _ => .inl rfl)) (fun _ _ => rfl) (h2 σ (fun _ _ => rfl)), .inl ⟨rfl, hk s bs h1⟩⟩
          · cases h
        · cases h
      · cases h
    · split at h
      · split at h
        · rename_i r0 cs hH
          split at h
          · rename_i hc
            simp only [Option.some.injEq, Prod.mk.injEq] at h
            obtain ⟨rfl, rfl, rfl⟩ := h
            obtain ⟨s, bs, h1, h2⟩ := F.heap _ _ hH
            obtain ⟨b, h3, h4⟩ := hk s bs h1
            exact ⟨fun y hy => (by cases hy; exact ⟨s, bs, h1, F.kn hH⟩), s, bs, .inr ⟨_, rfl, h1⟩, hc, fun D hD => OwnRel.stab (dom_weak hD (fun _ => .inl rfl)) (fun _ _ => rfl) (h2 σ (fun _ _ => rfl)), .inr ⟨rfl, by rw [h4, h3], b, h3⟩⟩
          · cases h
        · cases h
      · cases h
    · rename_i τ
      split at h
      · simp only [Option.some.injEq, Prod.mk.injEq] at h
        obtain ⟨rfl, rfl, rfl⟩ := h
        exact ⟨fun _ h => (by cases h), .inl ⟨rfl, rfl, .inl ⟨rfl, none, 0, hk⟩⟩⟩
      · split at h
        · simp only [Option.some.injEq, Prod.mk.injEq] at h
          obtain ⟨rfl, rfl, rfl⟩ := h
          exact ⟨fun _ h => (by cases h), .inl ⟨rfl, rfl, hk⟩⟩
        · cases h
      · split at h
        · rename_i r0 e' τ' xs hH
          split at h
          · simp only [Option.some.injEq, Prod.mk.injEq] at h
            obtain ⟨rfl, rfl, rfl⟩ := h
            obtain ⟨s, bs, h1, h2⟩ := F.heap _ _ hH
            refine ⟨fun y hy => (by cases hy; exact ⟨s, bs, h1, F.kn hH⟩), .inr ⟨_, s, bs, rfl, rfl, h1, hk s bs h1, fun D hD _ => snap_flat (h2 σ fun _ _ => rfl) hD⟩⟩
          · cases h
        · cases h
      · cases h
    · split at h
      · split at h
        · rename_i r0 cs hH
          split at h
          · rename_i hc
            simp only [Option.some.injEq, Prod.mk.injEq] at h
            obtain ⟨rfl, rfl, rfl⟩ := h
            obtain ⟨s, bs, h1, h2⟩ := F.heap _ _ hH
            obtain ⟨b, h3, h4⟩ := hk s bs h1
            refine ⟨fun y hy => (by cases hy; exact ⟨s, bs, h1, F.kn hH⟩), .inr ⟨_, s, bs, hc.1, rfl, h1, by rw [h4, h3], fun D hD hDD => ?_⟩⟩
            obtain ⟨b', t', cur, h5, h6, h7, h8, h9⟩ := h2 σ (fun _ _ => rfl)
            refine ⟨fun e => by rw [e] at hc; simp at hc, b', 0, cur.toList, h5, hD b' (by rw [h6]; simp), fun k u hu => ?_, RelL.stab (dom_weak hDD (fun _ => .inl rfl)) cs cur.toList h8⟩
            rw [cell_of_row w b' _ cur t' (0, 0) h7, Nat.zero_add]
            simpa using hu
          · cases h
        · cases h
      · cases h
    · split at h
      · simp only [Option.some.injEq, Prod.mk.injEq] at h
        obtain ⟨rfl, rfl, rfl⟩ := h
        exact ⟨fun _ h => (by cases h), .inl ⟨rfl, rfl, .inl ⟨rfl, none, 0, hk⟩⟩⟩
      · simp only [Option.some.injEq, Prod.mk.injEq] at h
        obtain ⟨rfl, rfl, rfl⟩ := h
        exact ⟨fun _ h => (by cases h), .inl ⟨rfl, rfl, hk⟩⟩
      · split at h
        · rename_i r0 e' xs hH
          simp only [Option.some.injEq, Prod.mk.injEq] at h
          obtain ⟨rfl, rfl, rfl⟩ := h
          obtain ⟨s, bs, h1, h2⟩ := F.heap _ _ hH
          exact ⟨fun y hy => (by cases hy; exact ⟨s, bs, h1, F.kn hH⟩), .inr ⟨_, s, bs, rfl, rfl, h1, hk s bs h1, fun D hD hDD => snap_rows (h2 σ fun _ _ => rfl) hD hDD⟩⟩
        · rename_i r0 e1 e2 xs hH
          simp only [Option.some.injEq, Prod.mk.injEq] at h
          obtain ⟨rfl, rfl, rfl⟩ := h
          obtain ⟨s, bs, h1, h2⟩ := F.heap _ _ hH
          exact ⟨fun y hy => (by cases hy; exact ⟨s, bs, h1, F.kn hH⟩), .inr ⟨_, s, bs, rfl, rfl, h1, hk s bs h1, fun D hD hDD => snap_mat (h2 σ fun _ _ => rfl) hD⟩⟩
        · cases h
      · cases h

theorem reAll_look : ∀ (sp : List (Nat × Kp)) (fr : List (Nat × AV)) (H : List (Nat × Option Own)) (rs : List Nat), reAll st sp = some (fr, H, rs) → (sp.map (·.1)).Nodup →
    (∀ t, (look fr t = none ∧ look H t = none ∧ t ∉ sp.map (·.1)) ∨ ∃ k x o r, (t, k) ∈ sp ∧ reOne st t k = some (x, o, r) ∧ look fr t = some x ∧ look H t = o.map some ∧ ∀ y, r = some y → y ∈ rs) ∧
    (rs.Nodup → ∀ t t' k k' x x' o o' y, (t, k) ∈ sp → (t', k') ∈ sp → reOne st t k = some (x, o, some y) → reOne st t' k' = some (x', o', some y) → t = t') ∧
    (∀ t k x o y, (t, k) ∈ sp → reOne st t k = some (x, o, some y) → y ∈ rs)
  | [], fr, H, rs, h, _ => by
    simp only [reAll, Option.some.injEq, Prod.mk.injEq] at h
    obtain ⟨rfl, rfl, rfl⟩ := h
    refine ⟨fun t => .inl ⟨rfl, rfl, by simp⟩, fun _ t t' k k' x x' o o' y h => (by cases h), fun t k x o y h => (by cases h)⟩
  | (t0, k0) :: sp, fr, H, rs, h, hnd => by
    simp only [reAll] at h
    split at h
    · rename_i x0 o0 r0 fr1 H1 rs1 h1 h2
      simp only [Option.some.injEq, Prod.mk.injEq] at h
      obtain ⟨rfl, rfl, rfl⟩ := h
      simp only [List.map_cons, List.nodup_cons] at hnd
      obtain ⟨ih1, ih2, ih3⟩ := reAll_look sp fr1 H1 rs1 h2 hnd.2
      have hmem : ∀ y, y ∈ rs1 → y ∈ (match r0 with | some r => r :: rs1 | none => rs1) := fun y hy => by cases r0 <;> simp [hy]
      have hr0 : ∀ y, r0 = some y → y ∈ (match r0 with | some r => r :: rs1 | none => rs1) := fun y hy => by subst hy; simp
      refine ⟨fun t => ?_, fun hrs t t' k k' x x' o o' y hm hm' hr hr' => ?_, fun t k x o y hm hr => ?_⟩
      · by_cases ht : t = t0
        · subst ht
          right
          have hH1 : look H1 t = none := by
            rcases ih1 t with h3 | ⟨k, x, o, r, h3, _⟩
            · exact h3.2.1
            · exact absurd (List.mem_map.2 ⟨_, h3, rfl⟩) hnd.1
          refine ⟨k0, x0, o0, r0, by simp, h1, by simp [look], ?_, hr0⟩
          cases o0 <;> simp [look, hH1]
        · rcases ih1 t with ⟨h3, h4, h5⟩ | ⟨k, x, o, r, h3, h4, h5, h6, h7⟩
          · left
            refine ⟨by simp [look, ht, h3], ?_, by simp [ht]; simpa using h5⟩
            cases o0 <;> simp [look, ht, h4]
          · right
            refine ⟨k, x, o, r, by simp [h3], h4, by simp [look, ht, h5], ?_, fun y hy => hmem y (h7 y hy)⟩
            cases o0 <;> simp [look, ht, h6]
      · have hrs1 : rs1.Nodup := by cases r0 with | none => exact hrs | some r => exact (List.nodup_cons.1 hrs).2
        have hnew : ∀ t k x o y, (t, k) ∈ sp → reOne st t k = some (x, o, some y) → r0 = some y → False := by
          intro t k x o y hm hr e
          subst e
          exact (List.nodup_cons.1 hrs).1 (ih3 t k x o y hm hr)
        rcases List.mem_cons.1 hm with hm | hm <;> rcases List.mem_cons.1 hm' with hm' | hm'
        · cases hm; cases hm'; rfl
        · cases hm
          rw [h1] at hr; simp only [Option.some.injEq, Prod.mk.injEq] at hr
          exact (hnew t' k' x' o' y hm' hr' hr.2.2).elim
        · cases hm'
          rw [h1] at hr'; simp only [Option.some.injEq, Prod.mk.injEq] at hr'
          exact (hnew t k x o y hm hr hr'.2.2).elim
        · exact ih2 hrs1 t t' k k' x x' o o' y hm hm' hr hr'
      · rcases List.mem_cons.1 hm with hm | hm
        · cases hm
          rw [h1] at hr; simp only [Option.some.injEq, Prod.mk.injEq] at hr
          exact hr0 y hr.2.2
        · exact hmem y (ih3 t k x o y hm hr)
    · cases h

theorem reshape_sound {nt : Nat} {sp : List (Nat × Kp)} (h : reshape nt E.np sp st = some st') (F : FitsS E st a w) : FitsS E st' a w := by
  obtain ⟨σ, F⟩ := F
  unfold reshape at h
  split at h
  · rename_i fr H rs hre
    split at h
    · rename_i hc
      obtain ⟨hrs, hnd, hlt, hnpt⟩ := hc
      simp only [Option.some.injEq] at h; subst h
      obtain ⟨hl, huniq, _⟩ := reAll_look sp fr H rs hre hnd
      have hup : ∀ t, applyUps H noH t = (look H t).join := by
        intro t; simp only [applyUps, noH]; cases look H t <;> rfl
      -- what each slot that owns stands for
      have hown : ∀ t ow, applyUps H noH t = some ow → ∃ k x r, (t, k) ∈ sp ∧ reOne st t k = some (x, some ow, r) ∧ look fr t = some x ∧ ReOK E σ st a w t x (some ow) r := by
        intro t ow ho
        rw [hup] at ho
        rcases hl t with ⟨_, h2, _⟩ | ⟨k, x, o, r, h3, h4, h5, h6, h7⟩
        · rw [h2] at ho; cases ho
        · rw [h6] at ho
          cases o with
          | none => cases ho
          | some o => cases ho; exact ⟨k, x, r, h3, h4, h5, reOne_sound F t k x _ r h4⟩
      classical
      have hch : ∀ t, ∃ z : Option (Value × List Nat), (applyUps H noH t = none → z = none) ∧ ∀ ow, applyUps H noH t = some ow → ∃ s bs, z = some (s, bs) ∧ ∃ k x r, (t, k) ∈ sp ∧ reOne st t k = some (x, some ow, r) ∧ look fr t = some x ∧
          ((r = none ∧ bs = []) ∨ ∃ y, r = some y ∧ σ y = some (s, bs)) ∧ cleanO ow = true ∧ (∀ D : Nat → Prop, (∀ b, D b → E.D σ b) → OwnRel w D σ ow s bs) ∧
          ((x = .sl t ∧ a.tmps.getD t undef = s) ∨ (x = .op t 0 ∧ a.tmps.getD t undef = s ∧ ∃ b, s = .pointer (some ⟨b, 0, none⟩))) := by
        intro t
        cases ho : applyUps H noH t with
        | none => exact ⟨none, fun _ => rfl, fun ow h => (by cases h)⟩
        | some ow =>
          obtain ⟨k, x, r, h1, h2, h3, _, s, bs, h5, h6, h7, h8⟩ := hown t ow ho
          exact ⟨some (s, bs), fun h => (by cases h), fun ow' h => (by cases h; exact ⟨s, bs, rfl, k, x, r, h1, h2, h3, h5, h6, h7, h8⟩)⟩
      let σ' : Sig := fun t => Classical.choose (hch t)
      have hσ1 : ∀ t, applyUps H noH t = none → σ' t = none := fun t => (Classical.choose_spec (hch t)).1
      have hσ2 := fun t => (Classical.choose_spec (hch t)).2
      have hback : ∀ t s bs, σ' t = some (s, bs) → ∃ ow, applyUps H noH t = some ow := by
        intro t s bs h
        cases ho : applyUps H noH t with
        | none => rw [hσ1 t ho] at h; cases h
        | some ow => exact ⟨ow, rfl⟩
      have hsrc : ∀ t s bs, σ' t = some (s, bs) → ∀ b ∈ bs, ∃ k x ow y, (t, k) ∈ sp ∧ reOne st t k = some (x, some ow, some y) ∧ σ y = some (s, bs) := by
        intro t s bs h b hb
        obtain ⟨ow, ho⟩ := hback t s bs h
        obtain ⟨s1, bs1, h1, k, x, r, h2, h3, _, h5, _⟩ := hσ2 t ow ho
        rw [show σ' t = _ from h1] at h; cases h
        rcases h5 with ⟨_, h5⟩ | ⟨y, rfl, h5⟩
        · rw [h5] at hb; cases hb
        · exact ⟨k, x, ow, y, h2, h3, h5⟩
      have hdom : ∀ b, E.D σ' b → E.D σ b := by
        rintro b (⟨t, s, bs, h1, h2⟩ | h)
        · obtain ⟨k, x, ow, y, _, _, h3⟩ := hsrc t s bs h1 b h2
          exact .inl ⟨y, s, bs, h3, h2⟩
        · exact .inr h
      have hkeys : ∀ t k, (t, k) ∈ sp → t < nt := fun t k hm => by
        have := List.all_eq_true.1 hlt (t, k) hm
        simp only [Bool.and_eq_true, decide_eq_true_eq] at this; exact this.1
      have hlent : ∀ t k x o r, (t, k) ∈ sp → reOne st t k = some (x, o, r) → lentOK E.np t o r = true := fun t k x o r hm hr => by
        have := List.all_eq_true.1 hlt (t, k) hm
        simp only [Bool.and_eq_true, hr] at this; exact this.2
      refine ⟨σ', { frame := ?_, heap := ?_, gone := hσ1, known := ?_, lt := ?_, disj := ?_, len := ?_, kept := F.kept, old := F.old, size := F.size, os := F.os, tape := F.tape, output := F.output, drawn := F.drawn, tsz := F.tsz, dfs := F.dfs }⟩
      · intro t x hx σ'' h''
        rcases hl t with ⟨h1, _⟩ | ⟨k, x1, o, r, h3, h4, h5, h6, h7⟩
        · rw [h1] at hx; cases hx
        · rw [h5] at hx; cases hx
          have hok := reOne_sound F t k x o r h4
          cases o with
          | none =>
            rcases hok.2 with ⟨hc, _, hr⟩ | ⟨y, s, bs, hc, rfl, hy, hv, hro⟩
            · exact RelV.clean σ σ'' x _ hc (RelV.stab (dom_weak hdom (fun _ => .inl rfl)) x _ hr)
            · rw [hv]
              refine RelV.clean σ σ'' x _ hc (hro _ (fun b hb hD => ?_) hdom)
              rcases hD with ⟨t2, s2, bs2, h8, h9⟩ | hA
              · obtain ⟨k2, x2, ow2, y2, h10, h11, h12⟩ := hsrc t2 s2 bs2 h8 b h9
                by_cases hyy : y = y2
                · subst hyy
                  have := huniq hrs t t2 k k2 _ _ _ _ y h3 h10 h4 h11
                  subst this
                  have hkk : k = k2 := by
                    have h13 : look H t = none := h6
                    obtain ⟨ow3, h14⟩ := hback t s2 bs2 h8
                    rw [hup, h13] at h14; cases h14
                  subst hkk
                  rw [h4] at h11; cases h11
                · exact F.disj y y2 s bs s2 bs2 hy h12 hyy b hb h9
              · have h1 := F.old b hA
                rcases (F.lt y s bs hy b hb).2 with h2 | h2
                · omega
                · exact h1.2 h2
          | some ow =>
            have ho : applyUps H noH t = some ow := by rw [hup, h6]; rfl
            obtain ⟨s, bs, h8, k', x', r', h9, h10, h11, h12, h13, h14, h15⟩ := hσ2 t ow ho
            rw [h5] at h11; cases h11
            have hlt' : t < nt := hkeys t k h3
            have hs'' : σ'' t = some (s, bs) := by rw [h'' t hlt']; exact h8
            rcases h15 with ⟨rfl, hv⟩ | ⟨rfl, hv, b, hb⟩
            · intro s2 bs2 hs2
              rw [hs''] at hs2; cases hs2; exact hv
            · intro s2 bs2 hs2
              rw [hs''] at hs2; cases hs2
              exact ⟨b, hb, by rw [hv, hb]⟩
      · intro t ow ho
        obtain ⟨s, bs, h8, k', x', r', h9, h10, h11, h12, h13, h14, h15⟩ := hσ2 t ow ho
        exact ⟨s, bs, h8, fun σ'' _ => OwnRel.clean σ σ'' h13 (h14 _ hdom)⟩
      · intro t ht
        cases ho : applyUps H noH t with
        | none => rfl
        | some ow =>
          obtain ⟨k, x, r, h1, _⟩ := hown t ow ho
          exact absurd (hkeys t k h1) ht
      · intro t s bs h b hb
        obtain ⟨k, x, ow, y, _, _, h3⟩ := hsrc t s bs h b hb
        exact F.lt y s bs h3 b hb
      · intro t t' s bs s' bs' h1 h2 hne b hb hb'
        obtain ⟨k, x, ow, y, h3, h4, h5⟩ := hsrc t s bs h1 b hb
        obtain ⟨k', x', ow', y', h6, h7, h8⟩ := hsrc t' s' bs' h2 b hb'
        have hyy : y ≠ y' := fun e => hne (by subst e; exact huniq hrs t t' k k' x x' _ _ y h3 h6 h4 h7)
        exact F.disj y y' s bs s' bs' h5 h8 hyy b hb hb'
      · intro p s hp
        obtain ⟨h1, h2, h3⟩ := F.len p s hp
        refine ⟨Nat.lt_of_lt_of_le h2 hnpt, h2, fun ow ho => ?_⟩
        obtain ⟨s1, bs1, h8, k, x, r, h9, h10, _, h11, _⟩ := hσ2 p ow ho
        have h12 := hlent p k x _ r h9 h10
        simp only [lentOK, Option.isNone_some, Bool.false_or, Bool.or_eq_true, decide_eq_true_eq, beq_iff_eq] at h12
        rcases h12 with h12 | h12
        · omega
        · subst h12
          rcases h11 with ⟨h13, _⟩ | ⟨y, h13, h14⟩
          · cases h13
          · cases h13
            show σ' p = some s
            rw [show σ' p = _ from h8]
            cases hH : applyUps st.H noH p with
            | none => rw [F.gone p hH] at h14; cases h14
            | some o2 => rw [← h14]; exact h3 o2 hH
    · cases h
  · cases h

theorem W_re {c : Code} (sp : List (Nat × Kp)) (h : reshape E.nt E.np sp st = some st') (hw : W E c st' Q) : W E c st Q := W_weak (fun _ _ F => reshape_sound h F) hw

/-- What holds behind a round: the state, reshaped, is again one of the family, with a lesser measure; or the loop is left. -/
def loopQ {α : Type} (nt np : Nat) (sp : List (Nat × Kp)) (S : α → AState) (I : α → Prop) (μ : α → Nat) (n : Nat) (Q : Exit → AState → Prop) : Exit → AState → Prop
  | .normal, s => ∃ x, reshape nt np sp s = some (S x) ∧ I x ∧ μ x < n
  | e, s => Q e s

theorem W_loop {α : Type} (sp : List (Nat × Kp)) (S : α → AState) (I : α → Prop) (μ : α → Nat) {c : Code} (x0 : α) (h0 : reshape E.nt E.np sp st = some (S x0)) (hI : I x0)
    (hr : ∀ x, I x → W E c (S x) (loopQ E.nt E.np sp S I μ (μ x) Q)) : W E (.loop c) st Q := by
  intro a w F
  refine wp_loop_n (fun n a w => ∃ x, I x ∧ μ x = n ∧ FitsS E (S x) a w) (μ x0) ⟨x0, hI, rfl, reshape_sound h0 F⟩ ?_
  rintro n a w ⟨x, hx, rfl, Fx⟩
  refine wp_mono (hr x hx a w Fx) ?_
  rintro e a' w' ⟨s, F', hq⟩
  cases e with
  | normal =>
    obtain ⟨x', h1, h2, h3⟩ := hq
    exact ⟨_, h3, x', h2, rfl, reshape_sound h1 F'⟩
  | _ => exact ⟨s, F', hq⟩

end

section
variable {E : Env} {st : AState} {Q : Exit → AState → Prop} {T : TypeId → Option TD} {Γ : FuncId → Option Ctr}

theorem opsW_sound (hT : ∀ t d, T t = some d → TyOK E.P t d) (hG : ∀ f C, Γ f = some C → Meets E.P f C) {mb : List Nat} {ops : List Oper} {K : AState → Prop} (Q' : Exit → Act → World → Prop) (hQ : ∀ s a w, K s → FitsS E s a w → Q' .normal a w) :
    ∀ (l : List Oper) (st : AState) (a : Act) (w : World), opsW T Γ mb E.nt ops K l st → FitsS E st a w → wpList E.P ops.toArray Q' l a w
  | [], st, a, w, h, F => hQ st a w h F
  | o :: l, st, a, w, h, F => by
    simp only [opsW] at h
    split at h
    · split at h
      · rename_i neg C hn
        obtain ⟨hd, hrest⟩ := h
        obtain ⟨σ, F⟩ := F
        refine wpList_step fun K' hK' => ?_
        obtain ⟨hg, b, hC, hgood⟩ := nil_sound (nx := st.nx) hT F hn
        have hw : Region.wanted o (yielded ops.toArray a.tmps) = true := by simp [Region.wanted, hg]
        rw [if_pos hw]
        have hdk : ∀ k, o.dst = some k → k < E.nt := fun k hk => by rw [hk] at hd; simpa [dstOK] using hd
        refine hgood.step K' Q' fun v w' σ' hF hx => hK' _ _ (opsW_sound hT hG Q' hQ l _ _ w' (hrest b hC) ⟨σ', ?_⟩)
        have F' := hF.putD o.dst hdk (.bool (nb neg b)) v hx
        have := app_fr st o.dst ⟨.bool (nb neg b), [], 0, True⟩
        rw [this]
        have F2 : Fits E (updD (look st.fr) o.dst (some (.bool (nb neg b)))) (applyUps st.H noH) (fun r => r < st.nx) σ' (a.put o.dst v) w' := by
          rw [← kn0 (fun r => r < st.nx) st.nx]; exact F'
        exact F2
      · split at h
        · rename_i q hq
          obtain ⟨hd, hpre, hrest⟩ := h
          obtain ⟨σ, F⟩ := F
          refine wpList_step fun K' hK' => ?_
          have hr := rel_sound (σ := σ) hG F hd hq hpre (fun i (h : st.nx + i < st.nx) => by omega) K' Q' (fun R hR => by
            obtain ⟨h1, h2⟩ := hrest R hR
            split at h2
            · rename_i e he
              refine ⟨h1, e, he, fun a' w' σ' F' => hK' a' w' (opsW_sound hT hG Q' hQ l _ a' w' h2 ⟨σ', ?_⟩)⟩
              rw [← app_fr] at F'
              have e1 : (fun r => r < st.nx ∨ (st.nx ≤ r ∧ r < st.nx + e.news)) = (fun r => r < (st.app o.dst e).nx) := by
                funext r; apply propext; simp only [AState.app]; omega
              have e2 : applyUps e.ups (applyUps st.H noH) = applyUps (st.app o.dst e).H noH := by simp only [AState.app]; rw [applyUps_append]
              rw [e2] at F'
              simpa only [e1] using F'
            · exact h2.elim)
          have hw : Region.wanted o (yielded ops.toArray a.tmps) = true := by simp [Region.wanted, hr.1]
          rw [if_pos hw]
          exact hr.2
        · exact h.elim
    · rename_i e he
      obtain ⟨hd, hvc, hrest⟩ := h
      obtain ⟨σ, F⟩ := F
      refine wpList_step fun K' hK' => ?_
      have hnx : ∀ i, i < e.news → ¬ (fun r => r < st.nx) (st.nx + i) := fun i _ h => by simp only [] at h; omega
      refine stepG_sound hT hG F hnx hd he hvc K' Q' (fun a' w' σ' F' => hK' a' w' (opsW_sound hT hG Q' hQ l _ a' w' hrest ⟨σ', ?_⟩))
      rw [← app_fr] at F'
      have e1 : (fun r => r < st.nx ∨ (st.nx ≤ r ∧ r < st.nx + e.news)) = (fun r => r < (st.app o.dst e).nx) := by
        funext r; apply propext; simp only [AState.app]; omega
      have e2 : applyUps e.ups (applyUps st.H noH) = applyUps (st.app o.dst e).H noH := by simp only [AState.app]; rw [applyUps_append]
      rw [e2] at F'
      simpa only [e1] using F'

/-- What is kept behind a region. -/
def keepS (ks : List Nat) (s : AState) : AState := { s with fr := s.fr.filter fun p => ks.contains p.1 }
theorem look_filter {α : Type} (f : Nat → Bool) : ∀ (l : List (Nat × α)) (t : Nat), look (l.filter fun p => f p.1) t = if f t then look l t else none
  | [], t => by simp [look]
  | (k, v) :: l, t => by
    by_cases hk : f k = true
    · rw [List.filter_cons_of_pos (by simpa using hk)]
      simp only [look]
      rw [look_filter f l t]
      by_cases ht : t = k
      · subst ht; simp [hk]
      · simp [ht]
    · rw [List.filter_cons_of_neg (by simpa using hk), look_filter f l t]
      simp only [look]
      by_cases ht : t = k
      · subst ht; simp [hk]
      · simp [ht]
theorem FitsS.keep {s : AState} {a : Act} {w : World} (ks : List Nat) (F : FitsS E s a w) : FitsS E (keepS ks s) a w := by
  obtain ⟨σ, F⟩ := F
  refine ⟨σ, F.less (fun t x h => ?_)⟩
  simp only [keepS] at h
  rw [look_filter (fun k => ks.contains k)] at h
  split at h
  · exact h
  · cases h

theorem W_region (hT : ∀ t d, T t = some d → TyOK E.P t d) (hG : ∀ f C, Γ f = some C → Meets E.P f C) (mb ks : List Nat) {id : Nat} {ops : List Oper} (h : opsW T Γ mb E.nt ops (fun s => Q .normal (keepS ks s)) ops st) : W E (.region id ops.toArray false) st Q := by
  intro a w F
  refine wp_region_lit (opsW_sound hT hG _ ?_ ops st a w h F)
  intro s a w hs Fs
  exact ⟨keepS ks s, Fs.keep ks, hs⟩
end
end Go.Proofs.Ytpiaeckkjdcifaa
