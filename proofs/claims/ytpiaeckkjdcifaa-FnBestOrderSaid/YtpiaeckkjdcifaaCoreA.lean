/- The core of the method, part A: abstract values, abstract states, and what it means that a frame and a world fit an abstract state. No condition. -/
import Derived.WalkKit
import Derived.WalkSpells
import Derived.Laws.MakeOwn
import Derived.Laws.OwnMore
import Derived.Laws.AppendOwnNone
import Derived.Orders
import Derived.Below
namespace Go.Proofs.Ytpiaeckkjdcifaa
set_option linter.unusedVariables false
set_option linter.unusedSimpArgs false
open Go

/-- No run takes back a draw. -/
theorem ask_drawn {α : Type} : ∀ (q : Ask α) (w : World), w.drawn ≤ (w.ask q).2.drawn
  | .done a, w => by simp [World.ask]
  | .ask what range k, w => by
    simp only [World.ask]
    split
    · exact ask_drawn _ w
    · exact Nat.le_trans (Nat.le_succ _) (ask_drawn (k _) { w with drawn := w.drawn + 1 })
theorem sys_drawn (w : World) (c : Sys) : w.drawn ≤ (w.sys c).2.drawn := by
  have h := ask_drawn (Kernel.perform c w.os) w
  simp only [World.sys]
  split
  · exact Nat.le_refl _
  · rename_i h2; rw [h2] at h; exact h
theorem viewStore_drawn {p : Program} {w : World} {x : Addr} {u : TypeId} {k : Addr} {v : Value} {b : Bool} {r : World × List Addr} (h : w.viewStore p x u k v b = .ok r) : r.1.drawn = w.drawn := by
  unfold World.viewStore at h
  simp only [bind, Except.bind, pure, Except.pure] at h
  repeat' split at h
  all_goals first | (cases h; done) | (cases h; rfl)
theorem farStore_drawn {p : Program} {w : World} {a : Addr} {v : Value} {b : Bool} {r : World × List Addr} (h : w.farStore p a v b = .ok r) : r.1.drawn = w.drawn := by
  unfold World.farStore at h
  split at h
  · split at h
    · cases h; rename_i h2; exact viewStore_drawn h2
    · cases h
  · cases h
theorem run_drawn {α : Type} {P : Program} : ∀ (p : Sem α) (w w' : World) (v : α), p.run P w = .ok v w' → w.drawn ≤ w'.drawn
  | .pure a, w, w', v, h => by simp only [Sem.run, Result.ok.injEq] at h; rw [h.2]; exact Nat.le_refl _
  | .load m a k, w, w', v, h => by
    simp only [Sem.run] at h
    split at h
    · exact run_drawn _ _ _ _ h
    · split at h
      · exact run_drawn _ _ _ _ h
      · cases h
  | .store m a x k, w, w', v, h => by
    have ih := fun w1 => run_drawn (P := P) k w1 w' v
    cases x <;> simp only [Sem.run] at h <;> first
      | (cases h; done)
      | (split at h
         · split at h
           · cases h
           · have h3 := ih _ h
             exact h3
         · split at h
           · rename_i e1
             have h2 := farStore_drawn e1
             have := ih _ h
             dsimp only at h2
             omega
           · cases h)
  | .new o k, w, w', v, h => by simp only [Sem.run] at h; have h3 := run_drawn _ _ _ _ h; exact h3
  | .shape r k, w, w', v, h => by simp only [Sem.run] at h; exact run_drawn _ _ _ _ h
  | .freeze a n k, w, w', v, h => by
    simp only [Sem.run] at h
    have := run_drawn _ _ _ _ h
    have e : (w.freeze a n).drawn = w.drawn := by unfold World.freeze; split <;> rfl
    omega
  | .frozen a k, w, w', v, h => by simp only [Sem.run] at h; exact run_drawn _ _ _ _ h
  | .getObj r k, w, w', v, h => by
    simp only [Sem.run] at h
    split at h
    · cases h
    · exact run_drawn _ _ _ _ h
    · cases h
  | .setObj r o k, w, w', v, h => by
    simp only [Sem.run] at h
    split at h
    · cases h
    · have h3 := run_drawn k _ _ _ h
      exact h3
    · cases h
  | .choose q k, w, w', v, h => by
    simp only [Sem.run] at h
    split at h
    · exact run_drawn _ _ _ _ h
    · exact Nat.le_trans (Nat.le_succ _) (run_drawn _ _ _ _ h)
  | .sys c k, w, w', v, h => by
    simp only [Sem.run] at h
    exact Nat.le_trans (sys_drawn w c) (run_drawn _ _ _ _ h)
  | .program k, w, w', v, h => by simp only [Sem.run] at h; exact run_drawn _ _ _ _ h
  | .mark m k, w, w', v, h => by simp only [Sem.run] at h; exact run_drawn _ _ _ _ h
  | .halt x, w, w', v, h => by simp only [Sem.run] at h; cases h

/-- A box, a ship, a pair, as plain data. -/
structure BoxD where
  id : Int
  weight : Int
  cls : Int
  port : Int
  cold : Bool
  deriving DecidableEq, Inhabited
structure HullD where
  bays : Int
  rows : Int
  tiers : Int
  deriving DecidableEq, Inhabited
structure PairD where
  a : Int
  b : Int
  deriving DecidableEq, Inhabited

/-- The flat element types of slices. -/
inductive FT where
  | i64 | u8 | box | pair
  deriving DecidableEq, Inhabited
@[reducible] def FT.T : FT → Type
  | .i64 => Int | .u8 => Int | .box => BoxD | .pair => PairD
def FT.dflt : (τ : FT) → τ.T
  | .i64 => (0 : Int) | .u8 => (0 : Int) | .box => (⟨0, 0, 0, 0, false⟩ : BoxD) | .pair => (⟨0, 0⟩ : PairD)
def FT.size : FT → Nat
  | .i64 => 1 | .u8 => 1 | .box => 5 | .pair => 2
def FT.bytes : FT → Nat
  | .i64 => 8 | .u8 => 1 | .box => 40 | .pair => 16
def FT.vals : (τ : FT) → τ.T → List Value
  | .i64, n => [.int .i64 n]
  | .u8, n => [.int .u8 n]
  | .box, b => [.int .i64 b.id, .int .i64 b.weight, .int .i64 b.cls, .int .i64 b.port, .bool b.cold]
  | .pair, p => [.int .i64 p.a, .int .i64 p.b]

/-- Abstract values. -/
inductive AV where
  | int (n : Int)
  | u8 (n : Int)
  | bool (b : Bool)
  | val (v : Value)
  | junk
  | nils
  | rs (τ : FT) (xs : List τ.T)
  | rows (xss : List (List Int))
  | agg (fs : List AV)
  | tup (fs : List AV)
  | rp (fs : List AV)
  | sl (r : Nat)
  | op (r : Nat) (off : Nat)
  | oe (r z : Nat) (i : Int) (k : Nat)
  | clo (f : FuncId) (caps : List AV)
  | when (p : Prop) (x : AV)

def FT.avs : (τ : FT) → τ.T → List AV
  | .i64, n => [.int n]
  | .u8, n => [.u8 n]
  | .box, b => [.int b.id, .int b.weight, .int b.cls, .int b.port, .bool b.cold]
  | .pair, p => [.int p.a, .int p.b]

/-- What a call owns. -/
inductive Own where
  | sl (e : TypeId) (τ : FT) (xs : List τ.T)
  | rows (e : TypeId) (xss : List (List Int))
  | mat (e e' : TypeId) (xss : List (List Int))
  | var (cs : List AV)

/-- The names of what is owned, with the concrete value and the blocks. -/
abbrev Sig := Nat → Option (Value × List Nat)
def Sig.dom (σ : Sig) (b : Nat) : Prop := ∃ r s bs, σ r = some (s, bs) ∧ b ∈ bs
def Value.blk : Value → List Nat
  | .slice (some a) _ _ => [a.block]
  | .pointer (some a) => [a.block]
  | _ => []

/-- A slice that is only read. -/
def ROflat (w : World) (D : Nat → Prop) (τ : FT) (xs : List τ.T) (v : Value) : Prop :=
  (xs = [] ∧ ∃ a cap, v = .slice a 0 cap) ∨
  (∃ b off cap, v = .slice (some ⟨b, off, none⟩) xs.length cap ∧ xs.length ≤ cap ∧ cap ≤ maxLen ∧ ¬ D b ∧
    ∀ i u, (xs.flatMap τ.vals)[i]? = some u → w.cell? ⟨b, off + i, none⟩ = some u)
def ROrows (w : World) (D : Nat → Prop) (xss : List (List Int)) (v : Value) : Prop :=
  (xss = [] ∧ ∃ a cap, v = .slice a 0 cap) ∨
  (∃ b off cap, ∃ us : List Value, v = .slice (some ⟨b, off, none⟩) xss.length cap ∧ xss.length ≤ cap ∧ cap ≤ maxLen ∧ ¬ D b ∧
    us.length = xss.length ∧ (∀ i u, us[i]? = some u → w.cell? ⟨b, off + i, none⟩ = some u) ∧
    ∀ (i : Nat) (u : Value) (xs : List Int), us[i]? = some u → xss[i]? = some xs → ROflat w D .i64 xs u)

mutual
def RelV (w : World) (D : Nat → Prop) (σ : Sig) : AV → Value → Prop
  | .int n, v => v = .int .i64 n
  | .u8 n, v => v = .int .u8 n
  | .bool b, v => v = .bool b
  | .val u, v => v = u
  | .junk, _ => True
  | .nils, v => v = .slice none 0 0
  | .rs τ xs, v => ROflat w D τ xs v
  | .rows xss, v => ROrows w D xss v
  | .agg fs, v => ∃ cs : List Value, v = .agg cs.toArray ∧ RelL w D σ fs cs
  | .tup fs, v => ∃ cs : List Value, v = .tuple cs.toArray ∧ RelL w D σ fs cs
  | .rp fs, v => fs ≠ [] ∧ ∃ b off, ∃ us : List Value, v = .pointer (some ⟨b, off, none⟩) ∧ ¬ D b ∧ (∀ k u, us[k]? = some u → w.cell? ⟨b, off + k, none⟩ = some u) ∧ RelL w D σ fs us
  | .sl r, v => ∀ s bs, σ r = some (s, bs) → v = s
  | .op r off, v => ∀ s bs, σ r = some (s, bs) → ∃ b, s = .pointer (some ⟨b, 0, none⟩) ∧ v = .pointer (some ⟨b, off, none⟩)
  | .oe r z i k, v => ∀ s bs, σ r = some (s, bs) → ∃ b n cap, s = .slice (some ⟨b, 0, none⟩) n cap ∧ v = .pointer (some ⟨b, i.toNat * z + k, none⟩) ∧ 0 ≤ i ∧ i < (n : Int)
  | .clo f caps, v => ∃ cs : List Value, v = .func (.func f) #[] cs.toArray ∧ RelL w D σ caps cs
  | .when p x, v => (p → RelV w D σ x v) ∧ (¬ p → v = undef)
def RelL (w : World) (D : Nat → Prop) (σ : Sig) : List AV → List Value → Prop
  | [], vs => vs = []
  | x :: xs, vs => ∃ v vs', vs = v :: vs' ∧ RelV w D σ x v ∧ RelL w D σ xs vs'
end

theorem flat_len (τ : FT) (x : τ.T) : (τ.vals x).length = τ.size := by cases τ <;> rfl
theorem size_pos (τ : FT) : 0 < τ.size := by cases τ <;> decide
theorem flat_length (τ : FT) (xs : List τ.T) : (xs.flatMap τ.vals).length = xs.length * τ.size := by
  induction xs with
  | nil => simp
  | cons x xs ih => simp only [List.flatMap_cons, List.length_append, flat_len, ih, List.length_cons, Nat.add_mul, Nat.one_mul]; omega
theorem flat_get (τ : FT) (xs : List τ.T) (i k : Nat) (x : τ.T) (hk : k < τ.size) (hx : xs[i]? = some x) : (xs.flatMap τ.vals)[i * τ.size + k]? = (τ.vals x)[k]? := by
  induction xs generalizing i with
  | nil => simp at hx
  | cons y ys ih =>
    cases i with
    | zero =>
      simp only [List.getElem?_cons_zero, Option.some.injEq] at hx
      subst hx
      simp only [List.flatMap_cons, Nat.zero_mul, Nat.zero_add]
      rw [List.getElem?_append_left (by rw [flat_len]; exact hk)]
    | succ i =>
      simp only [List.getElem?_cons_succ] at hx
      simp only [List.flatMap_cons]
      rw [List.getElem?_append_right (by rw [flat_len, Nat.succ_mul]; omega)]
      rw [flat_len, show (i + 1) * τ.size + k - τ.size = i * τ.size + k by rw [Nat.succ_mul]; omega]
      exact ih i hx
theorem flat_one (τ : FT) (xs : List τ.T) : ∀ u ∈ xs.flatMap τ.vals, u.oneCell' = true := by
  intro u hu
  obtain ⟨x, _, hx⟩ := List.mem_flatMap.1 hu
  cases τ <;> simp [FT.vals] at hx <;> (first | (subst hx; rfl) | (rcases hx with h | h | h | h | h <;> subst h <;> rfl) | (rcases hx with h | h <;> subst h <;> rfl))

/-- What may turn between two moments without harm to what is known. -/
structure Stab (w : World) (D : Nat → Prop) (σ : Sig) (w' : World) (D' : Nat → Prop) (σ' : Sig) : Prop where
  cell : ∀ (a : Addr) v, w.cell? a = some v → ¬ D a.block → w'.cell? a = some v
  dom : ∀ b, ¬ D b → b < w.heap.size → ¬ D' b
  sig : ∀ r, σ' r = σ r ∨ σ' r = none

theorem ROflat.stab {w w' : World} {D D' : Nat → Prop} {σ σ' : Sig} (S : Stab w D σ w' D' σ') {τ : FT} {xs : List τ.T} {v : Value} (h : ROflat w D τ xs v) : ROflat w' D' τ xs v := by
  rcases h with h | ⟨b, off, cap, hv, h1, h2, h3, h4⟩
  · exact .inl h
  · by_cases hx : xs = []
    · subst hx; exact .inl ⟨rfl, _, cap, by simpa using hv⟩
    · refine .inr ⟨b, off, cap, hv, h1, h2, ?_, fun i u hu => S.cell _ _ (h4 i u hu) h3⟩
      refine S.dom b h3 ?_
      have hl := flat_length τ xs
      have hp := size_pos τ
      have hn : 0 < xs.length := List.length_pos_iff.2 hx
      have : 0 < (xs.flatMap τ.vals).length := by rw [hl]; exact Nat.mul_pos hn hp
      have hc := h4 0 _ (List.getElem?_eq_getElem this)
      exact World.block_lt_of_cell? w _ hc

theorem ROrows.stab {w w' : World} {D D' : Nat → Prop} {σ σ' : Sig} (S : Stab w D σ w' D' σ') {xss : List (List Int)} {v : Value} (h : ROrows w D xss v) : ROrows w' D' xss v := by
  rcases h with h | ⟨b, off, cap, us, hv, h1, h2, h3, h4, h5, h6⟩
  · exact .inl h
  · by_cases hx : xss = []
    · subst hx; exact .inl ⟨rfl, _, cap, by simpa using hv⟩
    · refine .inr ⟨b, off, cap, us, hv, h1, h2, ?_, h4, fun i u hu => S.cell _ _ (h5 i u hu) h3, fun i u xs hu hxs => (h6 i u xs hu hxs).stab S⟩
      refine S.dom b h3 ?_
      have hn : 0 < us.length := by rw [h4]; exact List.length_pos_iff.2 hx
      exact World.block_lt_of_cell? w _ (h5 0 _ (List.getElem?_eq_getElem hn))

mutual
theorem RelV.stab {w w' : World} {D D' : Nat → Prop} {σ σ' : Sig} (S : Stab w D σ w' D' σ') : ∀ (x : AV) (v : Value), RelV w D σ x v → RelV w' D' σ' x v
  | .int _, _, h => h
  | .u8 _, _, h => h
  | .bool _, _, h => h
  | .val _, _, h => h
  | .junk, _, _ => trivial
  | .nils, _, h => h
  | .rs _ _, _, h => ROflat.stab S h
  | .rows _, _, h => ROrows.stab S h
  | .agg fs, _, ⟨cs, hv, hl⟩ => ⟨cs, hv, RelL.stab S fs cs hl⟩
  | .tup fs, _, ⟨cs, hv, hl⟩ => ⟨cs, hv, RelL.stab S fs cs hl⟩
  | .rp fs, _, ⟨hne, b, off, us, hv, hD, hc, hl⟩ => ⟨hne, b, off, us, hv, by
      refine S.dom b hD ?_
      cases fs with
      | nil => exact absurd rfl hne
      | cons f fs =>
        obtain ⟨u, us', rfl, _, _⟩ := hl
        exact World.block_lt_of_cell? w _ (hc 0 u rfl), fun k u hu => S.cell _ _ (hc k u hu) hD, RelL.stab S fs us hl⟩
  | .sl r, _, h => fun s bs hs => by
      rcases S.sig r with e | e
      · exact h s bs (e ▸ hs)
      · rw [e] at hs; cases hs
  | .op r off, _, h => fun s bs hs => by
      rcases S.sig r with e | e
      · exact h s bs (e ▸ hs)
      · rw [e] at hs; cases hs
  | .oe r z i k, _, h => fun s bs hs => by
      rcases S.sig r with e | e
      · exact h s bs (e ▸ hs)
      · rw [e] at hs; cases hs
  | .clo f caps, _, ⟨cs, hv, hl⟩ => ⟨cs, hv, RelL.stab S caps cs hl⟩
  | .when p x, v, h => ⟨fun hp => RelV.stab S x v (h.1 hp), h.2⟩
theorem RelL.stab {w w' : World} {D D' : Nat → Prop} {σ σ' : Sig} (S : Stab w D σ w' D' σ') : ∀ (xs : List AV) (vs : List Value), RelL w D σ xs vs → RelL w' D' σ' xs vs
  | [], _, h => h
  | x :: xs, _, ⟨v, vs', hv, hx, hl⟩ => ⟨v, vs', hv, RelV.stab S x v hx, RelL.stab S xs vs' hl⟩
end

theorem Stab.refl (w : World) (D : Nat → Prop) (σ : Sig) : Stab w D σ w D σ := ⟨fun _ _ h _ => h, fun _ h _ => h, fun _ => .inl rfl⟩


/-- What is owned, as the world holds it: the value and the blocks. -/
def OwnRel (w : World) (D : Nat → Prop) (σ : Sig) : Own → Value → List Nat → Prop
  | .sl e τ xs, s, bs => w.ownsRow 0 e τ.size s xs.length (xs.flatMap τ.vals) ∧ bs = Value.blk s
  | .rows e xss, s, bs => ∃ us : List Value, w.ownsRow 0 e 1 s xss.length us ∧ bs = Value.blk s ∧ (∀ u ∈ us, u.oneCell' = true) ∧
      ∀ (i : Nat) (u : Value) (xs : List Int), us[i]? = some u → xss[i]? = some xs → ROflat w D .i64 xs u
  | .mat e e' xss, s, bs => ∃ (us : List Value) (bss : List (List Nat)), w.ownsRow 0 e 1 s xss.length us ∧ bs = Value.blk s ++ bss.flatten ∧ bss.length = xss.length ∧
      (Value.blk s ++ bss.flatten).Nodup ∧
      ∀ (i : Nat) (u : Value) (xs : List Int) (b : List Nat), us[i]? = some u → xss[i]? = some xs → bss[i]? = some b → w.ownsRow 0 e' 1 u xs.length (xs.map (Value.int .i64)) ∧ b = Value.blk u
  | .var cs, s, bs => ∃ b t, ∃ cur : Array Value, s = .pointer (some ⟨b, 0, none⟩) ∧ bs = [b] ∧ w.heap[b]? = some (.cells cur t (0, 0)) ∧ RelL w D σ cs cur.toList ∧ ∀ u ∈ cur.toList, u.oneCell' = true

/-- What stays: the blocks in bs as they were; what is only read, by Stab. -/
theorem ownsRow_keep {w w' : World} {base : Nat} {e : TypeId} {size : Nat} {v : Value} {n : Nat} {xs : List Value} (h : w.ownsRow base e size v n xs)
    (hb : ∀ b ∈ Value.blk v, w'.heap[b]? = w.heap[b]?) : w'.ownsRow base e size v n xs := by
  refine ⟨h.1, ?_⟩
  rcases h.2 with h2 | ⟨g, cap, cur, rfl, h3, h4, h5⟩
  · exact .inl h2
  · exact .inr ⟨g, cap, cur, rfl, h3, by rw [hb g (by simp [Value.blk])]; exact h4, h5⟩

theorem OwnRel.stab {w w' : World} {D D' : Nat → Prop} {σ σ' : Sig} (S : Stab w D σ w' D' σ') {o : Own} {s : Value} {bs : List Nat}
    (hb : ∀ b ∈ bs, w'.heap[b]? = w.heap[b]?) (h : OwnRel w D σ o s bs) : OwnRel w' D' σ' o s bs := by
  cases o with
  | sl e τ xs =>
    obtain ⟨h1, h2⟩ := h
    exact ⟨ownsRow_keep h1 (h2 ▸ hb), h2⟩
  | rows e xss =>
    obtain ⟨us, h1, h2, h3, h4⟩ := h
    exact ⟨us, ownsRow_keep h1 (h2 ▸ hb), h2, h3, fun i u xs hu hx => (h4 i u xs hu hx).stab S⟩
  | mat e e' xss =>
    obtain ⟨us, bss, h1, h2, h3, h4, h5⟩ := h
    refine ⟨us, bss, ownsRow_keep h1 (fun b hm => hb b (h2 ▸ List.mem_append_left _ hm)), h2, h3, h4, fun i u xs b hu hx hbi => ?_⟩
    obtain ⟨h6, h7⟩ := h5 i u xs b hu hx hbi
    refine ⟨ownsRow_keep h6 (fun b' hm => hb b' ?_), h7⟩
    rw [h2]
    exact List.mem_append_right _ (List.mem_flatten.2 ⟨b, List.mem_of_getElem? hbi, h7 ▸ hm⟩)
  | var cs =>
    obtain ⟨b, t, cur, h1, h2, h3, h4, h5⟩ := h
    exact ⟨b, t, cur, h1, h2, by rw [hb b (by simp [h2])]; exact h3, RelL.stab S _ _ h4, h5⟩

/-- The static surroundings of a call under way. -/
structure Env where
  P : Program
  nt : Nat
  w0 : World
  Mut : Nat → Prop
  A : Nat → Prop
  np : Nat
  lent : Nat → Option (Value × List Nat)

def Env.D (E : Env) (σ : Sig) (b : Nat) : Prop := Sig.dom σ b ∨ E.A b

/-- The frame, the names and the world fit; 'Kn': the names that may be spoken of. -/
structure Fits (E : Env) (fr : Nat → Option AV) (H : Nat → Option Own) (Kn : Nat → Prop) (σ : Sig) (a : Act) (w : World) : Prop where
  frame : ∀ t x, fr t = some x → ∀ σ' : Sig, (∀ r, Kn r → σ' r = σ r) → RelV w (E.D σ) σ' x (a.tmps.getD t undef)
  heap : ∀ r o, H r = some o → ∃ s bs, σ r = some (s, bs) ∧ ∀ σ' : Sig, (∀ r, Kn r → σ' r = σ r) → OwnRel w (E.D σ) σ' o s bs
  gone : ∀ r, H r = none → σ r = none
  known : ∀ r, ¬ Kn r → H r = none
  lt : ∀ r s bs, σ r = some (s, bs) → ∀ b ∈ bs, b < w.heap.size ∧ (E.w0.heap.size ≤ b ∨ E.Mut b)
  disj : ∀ r r' s bs s' bs', σ r = some (s, bs) → σ r' = some (s', bs') → r ≠ r' → ∀ b ∈ bs, b ∉ bs'
  kept : ∀ k, k < E.w0.heap.size → ¬ E.Mut k → w.heap[k]? = E.w0.heap[k]?
  old : ∀ b, E.A b → b < E.w0.heap.size ∧ ¬ E.Mut b
  size : E.w0.heap.size ≤ w.heap.size
  os : w.os = E.w0.os
  tape : w.tape = E.w0.tape
  output : w.output = E.w0.output
  drawn : E.w0.drawn ≤ w.drawn
  len : ∀ p s, E.lent p = some s → Kn p ∧ p < E.np ∧ ∀ o, H p = some o → σ p = some s
  tsz : a.tmps.size = E.nt
  dfs : a.defers = []

def upd {α : Type} (f : Nat → Option α) (k : Nat) (x : Option α) : Nat → Option α := fun n => if n = k then x else f n
theorem upd_same {α : Type} (f : Nat → Option α) (k : Nat) (x : Option α) : upd f k x k = x := by simp [upd]
theorem upd_ne {α : Type} (f : Nat → Option α) {k n : Nat} (x : Option α) (h : n ≠ k) : upd f k x n = f n := by simp [upd, h]
def updD {α : Type} (f : Nat → Option α) (k : Option Nat) (x : Option α) : Nat → Option α := match k with | some k => upd f k x | none => f

/-- A value is put into a slot. -/
theorem Fits.put {E : Env} {fr : Nat → Option AV} {H : Nat → Option Own} {Kn : Nat → Prop} {σ : Sig} {a : Act} {w : World} (F : Fits E fr H Kn σ a w) (d : Nat) (hd : d < E.nt) (x : AV) (v : Value)
    (hx : ∀ σ' : Sig, (∀ r, Kn r → σ' r = σ r) → RelV w (E.D σ) σ' x v) : Fits E (upd fr d (some x)) H Kn σ (a.put (some d) v) w := by
  refine { F with frame := ?_, tsz := ?_, dfs := by simp [Act.put, F.dfs] }
  · intro t y hy σ' hσ'
    by_cases ht : t = d
    · subst ht
      rw [upd_same] at hy
      cases hy
      have := hx σ' hσ'
      have hlt : t < a.tmps.size := by rw [F.tsz]; exact hd
      simpa [Act.put, hlt] using this
    · rw [upd_ne _ _ ht] at hy
      have := F.frame t y hy σ' hσ'
      have hne : d ≠ t := fun e => ht e.symm
      simpa [Act.put, Array.getElem?_setIfInBounds_ne hne] using this
  · simp [Act.put, F.tsz]

theorem Fits.putD {E : Env} {fr : Nat → Option AV} {H : Nat → Option Own} {Kn : Nat → Prop} {σ : Sig} {a : Act} {w : World} (F : Fits E fr H Kn σ a w) (d : Option Nat) (hd : ∀ k, d = some k → k < E.nt) (x : AV) (v : Value)
    (hx : ∀ σ' : Sig, (∀ r, Kn r → σ' r = σ r) → RelV w (E.D σ) σ' x v) : Fits E (updD fr d (some x)) H Kn σ (a.put d v) w := by
  cases d with
  | none => exact F
  | some d => exact F.put d (hd d rfl) x v hx

/-- Slots are forgotten. -/
theorem Fits.less {E : Env} {fr fr' : Nat → Option AV} {H : Nat → Option Own} {Kn : Nat → Prop} {σ : Sig} {a : Act} {w : World} (F : Fits E fr H Kn σ a w)
    (h : ∀ t x, fr' t = some x → fr t = some x) : Fits E fr' H Kn σ a w := { F with frame := fun t x hx => F.frame t x (h t x hx) }


theorem Fits.kn {E : Env} {fr : Nat → Option AV} {H : Nat → Option Own} {Kn : Nat → Prop} {σ : Sig} {a : Act} {w : World} (F : Fits E fr H Kn σ a w) {r : Nat} {o : Own} (h : H r = some o) : Kn r :=
  Classical.byContradiction (fun hn => by rw [F.known r hn] at h; cases h)

/-- The world and the names move on. 'Ch': the blocks that may have been written. -/
theorem Fits.world {E : Env} {fr : Nat → Option AV} {H H' : Nat → Option Own} {Kn Kn' : Nat → Prop} {σ σ' : Sig} {a : Act} {w w' : World} (F : Fits E fr H Kn σ a w) (Ch : Nat → Prop)
    (hCh : ∀ k, Ch k → Sig.dom σ k) (hw : ∀ k, k < w.heap.size → ¬ Ch k → w'.heap[k]? = w.heap[k]?) (hsz : w.heap.size ≤ w'.heap.size)
    (hos : w'.os = w.os) (htape : w'.tape = w.tape) (hout : w'.output = w.output ∧ w.drawn ≤ w'.drawn)
    (hsig : ∀ r, Kn r → σ' r = σ r ∨ σ' r = none) (hKn : ∀ r, Kn r → Kn' r)
    (hdom : ∀ b, Sig.dom σ' b → Sig.dom σ b ∨ w.heap.size ≤ b)
    (hheap : ∀ r o, H' r = some o → (Kn r ∧ H r = some o ∧ σ' r = σ r ∧ ∀ s bs, σ r = some (s, bs) → ∀ b ∈ bs, ¬ Ch b) ∨
      ∃ s bs, σ' r = some (s, bs) ∧ ∀ σ'' : Sig, (∀ r, Kn' r → σ'' r = σ' r) → OwnRel w' (E.D σ') σ'' o s bs)
    (hgone : ∀ r, H' r = none → σ' r = none) (hknown : ∀ r, ¬ Kn' r → H' r = none)
    (hlt : ∀ r s bs, σ' r = some (s, bs) → ∀ b ∈ bs, b < w'.heap.size ∧ (E.w0.heap.size ≤ b ∨ E.Mut b))
    (hdisj : ∀ r r' s bs s' bs', σ' r = some (s, bs) → σ' r' = some (s', bs') → r ≠ r' → ∀ b ∈ bs, b ∉ bs') : Fits E fr H' Kn' σ' a w' := by
  have base : ∀ σ'' : Sig, (∀ r, Kn' r → σ'' r = σ' r) → ∃ s3 : Sig, (∀ r, Kn r → s3 r = σ r) ∧ Stab w (E.D σ) s3 w' (E.D σ') σ'' := by
    intro σ'' h''
    refine ⟨fun r => (open Classical in if Kn r then σ r else σ'' r), fun r hr => by simp [hr], ?_, ?_, ?_⟩
    · intro ad v hc hD
      have hlt' := World.block_lt_of_cell? w ad hc
      have hnc : ¬ Ch ad.block := fun h => hD (.inl (hCh _ h))
      rw [World.cell?_of_block (hw _ hlt' hnc)]; exact hc
    · intro b hD hb hD'
      rcases hD' with h | h
      · rcases hdom b h with h | h
        · exact hD (.inl h)
        · omega
      · exact hD (.inr h)
    · intro r
      by_cases hr : Kn r
      · rcases hsig r hr with h | h
        · left; simp [hr, h'' r (hKn r hr), h]
        · right; rw [h'' r (hKn r hr), h]
      · left; simp [hr]
  refine { frame := ?_, heap := ?_, gone := hgone, known := hknown, lt := hlt, disj := hdisj, kept := ?_, old := F.old, size := Nat.le_trans F.size hsz, os := hos.trans F.os, tape := htape.trans F.tape, output := hout.1.trans F.output, drawn := Nat.le_trans F.drawn hout.2, len := ?_, tsz := F.tsz, dfs := F.dfs }
  · intro t x hx σ'' h''
    obtain ⟨s3, h3, S⟩ := base σ'' h''
    exact RelV.stab S x _ (F.frame t x hx s3 h3)
  · intro r o ho
    rcases hheap r o ho with ⟨hk, hH, hs, hnc⟩ | h
    · obtain ⟨s, bs, h1, h2⟩ := F.heap r o hH
      refine ⟨s, bs, by rw [hs, h1], fun σ'' h'' => ?_⟩
      obtain ⟨s3, h3, S⟩ := base σ'' h''
      exact OwnRel.stab S (fun b hb => hw b (F.lt r s bs h1 b hb).1 (hnc s bs h1 b hb)) (h2 s3 h3)
    · exact h
  · intro k hk hm
    have hnc : ¬ Ch k := fun h => by
      obtain ⟨r, s, bs, h1, h2⟩ := hCh k h
      rcases (F.lt r s bs h1 k h2).2 with h3 | h3
      · omega
      · exact hm h3
    rw [hw k (Nat.lt_of_lt_of_le hk F.size) hnc]
    exact F.kept k hk hm
  · intro p s hp
    obtain ⟨h1, h2, h3⟩ := F.len p s hp
    refine ⟨hKn p h1, h2, fun o ho => ?_⟩
    rcases hheap p o ho with ⟨_, hH, hs, _⟩ | ⟨s2, bs2, h4, _⟩
    · rw [hs]; exact h3 o hH
    · rcases hsig p h1 with h5 | h5
      · cases hH : H p with
        | none => rw [h5, F.gone p hH] at h4; cases h4
        | some o2 => rw [h5]; exact h3 o2 hH
      · rw [h5] at h4; cases h4

/-- Only new blocks and draws: nothing is written, no name turns. -/
theorem Fits.grow {E : Env} {fr : Nat → Option AV} {H : Nat → Option Own} {Kn : Nat → Prop} {σ : Sig} {a : Act} {w w' : World} (F : Fits E fr H Kn σ a w)
    (hw : ∀ k, k < w.heap.size → w'.heap[k]? = w.heap[k]?) (hsz : w.heap.size ≤ w'.heap.size) (hos : w'.os = w.os) (htape : w'.tape = w.tape) (hout : w'.output = w.output ∧ w.drawn ≤ w'.drawn) : Fits E fr H Kn σ a w' :=
  F.world (fun _ => False) (fun _ h => h.elim) (fun k hk _ => hw k hk) hsz hos htape hout (fun _ _ => .inl rfl) (fun _ h => h) (fun _ h => .inl h)
    (fun r o ho => .inl ⟨F.kn ho, ho, rfl, fun _ _ _ _ _ h => h⟩) F.gone F.known
    (fun r s bs h b hb => ⟨Nat.lt_of_lt_of_le (F.lt r s bs h b hb).1 hsz, (F.lt r s bs h b hb).2⟩) F.disj

theorem Fits.notD {E : Env} {fr : Nat → Option AV} {H : Nat → Option Own} {Kn : Nat → Prop} {σ : Sig} {a : Act} {w : World} (F : Fits E fr H Kn σ a w) (b : Nat) (hb : w.heap.size ≤ b) : ¬ E.D σ b := by
  rintro (⟨r, s, bs, h1, h2⟩ | h)
  · have := (F.lt r s bs h1 b h2).1; omega
  · have := (F.old b h).1; have := F.size; omega

/-- A new thing is owned. -/
theorem Fits.fresh {E : Env} {fr : Nat → Option AV} {H : Nat → Option Own} {Kn : Nat → Prop} {σ : Sig} {a : Act} {w w' : World} (F : Fits E fr H Kn σ a w)
    (hw : ∀ k, k < w.heap.size → w'.heap[k]? = w.heap[k]?) (hsz : w.heap.size ≤ w'.heap.size) (hos : w'.os = w.os) (htape : w'.tape = w.tape) (hout : w'.output = w.output ∧ w.drawn ≤ w'.drawn)
    (r : Nat) (hr : ¬ Kn r) (o : Own) (s : Value) (bs : List Nat) (hbs : ∀ b ∈ bs, w.heap.size ≤ b ∧ b < w'.heap.size)
    (ho : ∀ σ'' : Sig, OwnRel w' (E.D (upd σ r (some (s, bs)))) σ'' o s bs) :
    Fits E fr (upd H r (some o)) (fun q => Kn q ∨ q = r) (upd σ r (some (s, bs))) a w' := by
  have hne : ∀ q, Kn q → q ≠ r := fun q hq e => hr (e ▸ hq)
  refine F.world (fun _ => False) (fun _ h => h.elim) (fun k hk _ => hw k hk) hsz hos htape hout (fun q hq => .inl (upd_ne _ _ (hne q hq))) (fun _ h => .inl h) ?_ ?_ ?_ ?_ ?_ ?_
  · rintro b ⟨q, s', bs', h1, h2⟩
    by_cases hq : q = r
    · subst hq; rw [upd_same] at h1; cases h1; exact .inr (hbs b h2).1
    · rw [upd_ne _ _ hq] at h1; exact .inl ⟨q, s', bs', h1, h2⟩
  · intro q o' ho'
    by_cases hq : q = r
    · subst hq; rw [upd_same] at ho'; cases ho'
      exact .inr ⟨s, bs, upd_same _ _ _, fun σ'' _ => ho σ''⟩
    · rw [upd_ne _ _ hq] at ho'
      exact .inl ⟨F.kn ho', ho', upd_ne _ _ hq, fun _ _ _ _ _ h => h⟩
  · intro q hq
    by_cases hqr : q = r
    · subst hqr; rw [upd_same] at hq; cases hq
    · rw [upd_ne _ _ hqr] at hq ⊢; exact F.gone q hq
  · intro q hq
    by_cases hqr : q = r
    · exact absurd (.inr hqr) hq
    · rw [upd_ne _ _ hqr]; exact F.known q fun h => hq (.inl h)
  · intro q s' bs' h b hb
    by_cases hq : q = r
    · subst hq; rw [upd_same] at h; cases h
      exact ⟨(hbs b hb).2, .inl (Nat.le_trans F.size (hbs b hb).1)⟩
    · rw [upd_ne _ _ hq] at h
      exact ⟨Nat.lt_of_lt_of_le (F.lt q s' bs' h b hb).1 hsz, (F.lt q s' bs' h b hb).2⟩
  · intro q q' s1 bs1 s2 bs2 h1 h2 hne' b hb1 hb2
    by_cases hq : q = r
    · subst hq; rw [upd_same] at h1; cases h1
      rw [upd_ne _ _ (Ne.symm hne')] at h2
      have := (F.lt q' s2 bs2 h2 b hb2).1; have := (hbs b hb1).1; omega
    · rw [upd_ne _ _ hq] at h1
      by_cases hq' : q' = r
      · subst hq'; rw [upd_same] at h2; cases h2
        have := (F.lt q s1 bs1 h1 b hb1).1; have := (hbs b hb2).1; omega
      · rw [upd_ne _ _ hq'] at h2
        exact F.disj q q' s1 bs1 s2 bs2 h1 h2 hne' b hb1 hb2

/-- What is owned is written: same value, same blocks. -/
theorem Fits.write {E : Env} {fr : Nat → Option AV} {H : Nat → Option Own} {Kn : Nat → Prop} {σ : Sig} {a : Act} {w w' : World} (F : Fits E fr H Kn σ a w)
    (r : Nat) (s : Value) (bs : List Nat) (hr : σ r = some (s, bs)) (hw : ∀ k, k < w.heap.size → k ∉ bs → w'.heap[k]? = w.heap[k]?) (hsz : w.heap.size ≤ w'.heap.size)
    (hos : w'.os = w.os) (htape : w'.tape = w.tape) (hout : w'.output = w.output ∧ w.drawn ≤ w'.drawn) (o : Own)
    (ho : ∀ σ'' : Sig, (∀ q, Kn q → σ'' q = σ q) → OwnRel w' (E.D σ) σ'' o s bs) : Fits E fr (upd H r (some o)) Kn σ a w' := by
  have hK : Kn r := Classical.byContradiction fun hn => by rw [F.gone r (F.known r hn)] at hr; cases hr
  refine F.world (fun k => k ∈ bs) (fun k hk => ⟨r, s, bs, hr, hk⟩) hw hsz hos htape hout (fun _ _ => .inl rfl) (fun _ h => h) (fun _ h => .inl h) ?_ ?_ ?_ ?_ F.disj
  · intro q o' ho'
    by_cases hq : q = r
    · subst hq; rw [upd_same] at ho'; cases ho'; exact .inr ⟨s, bs, hr, ho⟩
    · rw [upd_ne _ _ hq] at ho'
      exact .inl ⟨F.kn ho', ho', rfl, fun s' bs' h b hb hb' => F.disj q r s' bs' s bs h hr hq b hb hb'⟩
  · intro q hq
    by_cases hqr : q = r
    · subst hqr; rw [upd_same] at hq; cases hq
    · rw [upd_ne _ _ hqr] at hq; exact F.gone q hq
  · intro q hq
    rw [upd_ne _ _ (fun e => hq (by rw [e]; exact hK))]; exact F.known q hq
  · intro q s' bs' h b hb
    exact ⟨Nat.lt_of_lt_of_le (F.lt q s' bs' h b hb).1 hsz, (F.lt q s' bs' h b hb).2⟩

/-- What is owned is given up: from now on it is only read. -/
theorem Fits.drop {E : Env} {fr : Nat → Option AV} {H : Nat → Option Own} {Kn : Nat → Prop} {σ : Sig} {a : Act} {w : World} (F : Fits E fr H Kn σ a w) (r : Nat) : Fits E fr (upd H r none) Kn (upd σ r none) a w := by
  refine F.world (fun _ => False) (fun _ h => h.elim) (fun k _ _ => rfl) (Nat.le_refl _) rfl rfl ⟨rfl, Nat.le_refl _⟩ ?_ (fun _ h => h) ?_ ?_ ?_ ?_ ?_ ?_
  · intro q _
    by_cases hq : q = r
    · right; rw [hq, upd_same]
    · left; rw [upd_ne _ _ hq]
  · rintro b ⟨q, s', bs', h1, h2⟩
    by_cases hq : q = r
    · rw [hq, upd_same] at h1; cases h1
    · rw [upd_ne _ _ hq] at h1; exact .inl ⟨q, s', bs', h1, h2⟩
  · intro q o' ho'
    by_cases hq : q = r
    · rw [hq, upd_same] at ho'; cases ho'
    · rw [upd_ne _ _ hq] at ho'
      exact .inl ⟨F.kn ho', ho', upd_ne _ _ hq, fun _ _ _ _ _ h => h⟩
  · intro q hq
    by_cases hqr : q = r
    · rw [hqr, upd_same]
    · rw [upd_ne _ _ hqr] at hq ⊢; exact F.gone q hq
  · intro q hq
    by_cases hqr : q = r
    · rw [hqr, upd_same]
    · rw [upd_ne _ _ hqr]; exact F.known q hq
  · intro q s' bs' h b hb
    by_cases hqr : q = r
    · rw [hqr, upd_same] at h; cases h
    · rw [upd_ne _ _ hqr] at h; exact F.lt q s' bs' h b hb
  · intro q q' s1 bs1 s2 bs2 h1 h2 hne b hb1
    by_cases hqr : q = r
    · rw [hqr, upd_same] at h1; cases h1
    · rw [upd_ne _ _ hqr] at h1
      by_cases hq' : q' = r
      · rw [hq', upd_same] at h2; cases h2
      · rw [upd_ne _ _ hq'] at h2; exact F.disj q q' s1 bs1 s2 bs2 h1 h2 hne b hb1

/-- Its blocks are no longer apart. -/
theorem Fits.dropD {E : Env} {fr : Nat → Option AV} {H : Nat → Option Own} {Kn : Nat → Prop} {σ : Sig} {a : Act} {w : World} (F : Fits E fr H Kn σ a w) (r : Nat) (s : Value) (bs : List Nat)
    (hr : σ r = some (s, bs)) : ∀ b ∈ bs, ¬ E.D (upd σ r none) b := by
  intro b hb h
  rcases h with ⟨q, s', bs', h1, h2⟩ | h
  · by_cases hq : q = r
    · rw [hq, upd_same] at h1; cases h1
    · rw [upd_ne _ _ hq] at h1
      exact F.disj q r s' bs' s bs h1 hr hq b h2 hb
  · have h1 := F.old b h
    rcases (F.lt r s bs hr b hb).2 with h2 | h2
    · omega
    · exact h1.2 h2

end Go.Proofs.Ytpiaeckkjdcifaa
