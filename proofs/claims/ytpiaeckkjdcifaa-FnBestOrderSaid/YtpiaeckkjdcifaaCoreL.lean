/- The core of the method, part L: regions in the order of the text, and the rules for code. No condition. -/
import Derived.Test.YtpiaeckkjdcifaaCoreK
namespace Go.Proofs.Ytpiaeckkjdcifaa
set_option linter.unusedVariables false
set_option linter.unusedSimpArgs false
open Go

structure AState where
  fr : List (Nat × AV)
  H : List (Nat × Option Own)
  nx : Nat

def noH : Nat → Option Own := fun _ => none
def FitsS (E : Env) (st : AState) (a : Act) (w : World) : Prop := ∃ σ, Fits E (look st.fr) (applyUps st.H noH) (fun r => r < st.nx) σ a w

def evA (fr : Nat → Option AV) : Operand → Option AV
  | .tmp t => fr t
  | .const v => some (ofVal v)
  | .func f => some (.clo f [])
  | .global _ => none

def stripV : AV → AV
  | .when _ y => y
  | y => y
def stripP : AV → Prop
  | .when q _ => q
  | _ => True
def opQ (ev : Operand → Option AV) : List Operand → Prop
  | [] => True
  | x :: xs => (match ev x with | some y => stripP y | none => True) ∧ opQ ev xs

def pickAV (c a b : AV) : Option (AV × Prop) :=
  match stripV c, stripV a, stripV b with
  | .bool bc, .bool ba, .bool bb => some (.bool (bif bc then ba else bb), stripP c ∧ (bc = true → stripP a) ∧ (bc = false → stripP b))
  | _, _, _ => none

/-- The condition under which a guarded operation is carried out. -/
def guardP (fr : Nat → Option AV) (ops : List Oper) (g : Nat × Bool) : Option Prop :=
  match (ops[g.1]?).bind (·.dst) with
  | some d => match fr d with
    | some (.bool b) => some (b = g.2)
    | some (.when q (.bool b)) => some (q ∧ b = g.2)
    | _ => none
  | none => none

/-- A guarded operation that is known to be carried out (100000), or not to be (200000): its slot stands among 'mb', so much higher. -/
def flagB (mb : List Nat) (base : Nat) : Option Nat → Bool
  | some k => mb.contains (base + k)
  | none => false
def isPick : Op → Bool
  | .pick _ _ _ => true
  | _ => false
section
variable (T : TypeId → Option TD) (Γ : FuncId → Option Ctr)

def stepG0 (mb : List Nat) (ops : List Oper) (fr : Nat → Option AV) (H : Nat → Option Own) (nx : Nat) (o : Oper) : Option Eff :=
  match o.guard with
  | none => (match o.op with
    | .pick c a b => (match evA fr c, evA fr a, evA fr b with
      | some c, some a, some b => (pickAV c a b).map fun q => ⟨q.1, [], 0, q.2⟩
      | _, _, _ => none)
    | _ => stepOp T Γ mb (evA fr) H nx o)
  | some g => (match guardP fr ops g with
    | none => none
    | some pc => if flagB mb 100000 o.dst = true then
        (if isPick o.op = true then none else match stepOp T Γ mb (fun x => (evA fr x).map stripV) H nx o with
          | some eff => some ⟨eff.x, eff.ups, eff.news, pc ∧ opQ (evA fr) o.op.operands.toList ∧ eff.vc⟩
          | none => none)
      else if flagB mb 200000 o.dst = true then some ⟨.when pc (.bool false), [], 0, ¬ pc⟩
      else (match o.op with
      | .pick c a b => (match evA fr c, evA fr a, evA fr b with
        | some c, some a, some b => (pickAV c a b).map fun q => ⟨.when pc q.1, [], 0, pc → q.2⟩
        | _, _, _ => none)
      | _ => (match stepOp T Γ mb (fun x => (evA fr x).map stripV) H nx o with
        | some eff => if eff.ups.isEmpty ∧ eff.news = 0 then some ⟨.when pc eff.x, [], 0, pc → (opQ (evA fr) o.op.operands.toList ∧ eff.vc)⟩ else none
        | none => none)))

/-- A new slice, frozen as soon as it is made: its slot stands among 'mb', 300000 higher. -/
def fzE (mb : List Nat) (d : Option Nat) (e : Eff) : Option Eff :=
  if flagB mb 300000 d = true then (match e.x with
    | .sl r => (match look e.ups r with
      | some (some (.sl _ τ xs)) => some ⟨.rs τ xs, (r, none) :: e.ups, e.news, e.vc⟩
      | some (some (.rows _ xss)) => some ⟨.rows xss, (r, none) :: e.ups, e.news, e.vc⟩
      | _ => none)
    | _ => none) else some e
def stepG (mb : List Nat) (ops : List Oper) (fr : Nat → Option AV) (H : Nat → Option Own) (nx : Nat) (o : Oper) : Option Eff :=
  match stepG0 T Γ mb ops fr H nx o with
  | some e => fzE mb o.dst e
  | none => none

def AState.app (st : AState) (d : Option Nat) (e : Eff) : AState :=
  { fr := match d with | some k => (k, e.x) :: st.fr | none => st.fr, H := e.ups ++ st.H, nx := st.nx + e.news }
def dstOK (nt : Nat) : Option Nat → Bool
  | some k => decide (k < nt)
  | none => true

/-- What is known of a comparison with nil. -/
def nilC (H : Nat → Option Own) : AV → Option (Bool → Prop)
  | .nils => some (fun b => b = true)
  | .rs _ xs => some (fun b => b = true → xs.length = 0)
  | .sl r => match H r with
    | some (.sl _ _ xs) => some (fun b => b = true → xs.length = 0)
    | _ => none
  | _ => none
def isNilC : Operand → Bool
  | .const (.slice none 0 0) => true
  | _ => false
def nb : Bool → Bool → Bool
  | true, b => !b
  | false, b => b
def nilCmp (fr : Nat → Option AV) (H : Nat → Option Own) (o : Oper) : Option (Bool × (Bool → Prop)) :=
  match o.guard with
  | some _ => none
  | none => match o.op with
    | .binOp op t x y _ => if isNilC y = true then (match (T t).map TD.kd, op with
      | some (.sl _ _), .eql => (match evA fr x with
        | some a => (nilC H a).map fun C => (false, C)
        | none => none)
      | some (.sl _ _), .neq => (match evA fr x with
        | some a => (nilC H a).map fun C => (true, C)
        | none => none)
      | _, _ => none) else none
    | _ => none

/-- A call whose results are only described: what must hold ahead, which results may come, whether they are fit, and what each does. -/
structure RelC where
  pre : Prop
  S : CRes → Prop
  ok : CRes → Bool
  eff : CRes → Option Eff
def relC (mb : List Nat) (fr : Nat → Option AV) (H : Nat → Option Own) (nx : Nat) (o : Oper) : Option RelC :=
  match o.guard with
  | some _ => none
  | none => match o.op with
    | .call c => (match c.callee with
      | .value f => (match evA fr f with
        | some (.clo g caps) => (match evL (evA fr) c.args.toList, Γ g with
          | some ys, some C => (match C.rel with
            | some rl => (match conv C.al H C.modes (ys ++ caps) with
              | some (as, os, sn) => (match rl as (os.map (·.2)) with
                | some (pre, S) => some ⟨callOK0 C os sn = true ∧ pre, S, callOK1 C os, fun R => fzE mb o.dst ⟨renV (fun i => nx + i) R.res, (os.map (·.1)).zip (R.muts.map some) ++ ((List.range R.new.length).map (nx + ·)).zip (R.new.map some), R.new.length, True⟩⟩
                | none => none)
              | none => none)
            | none => none)
          | _, _ => none)
        | _ => none)
      | _ => none)
    | _ => none

/-- A list of operations, in the order of the text. -/
def opsW (mb : List Nat) (nt : Nat) (ops : List Oper) (K : AState → Prop) : List Oper → AState → Prop
  | [], st => K st
  | o :: l, st => match stepG T Γ mb ops (look st.fr) (applyUps st.H noH) st.nx o with
    | none => (match nilCmp T (look st.fr) (applyUps st.H noH) o with
      | some (neg, C) => dstOK nt o.dst = true ∧ ∀ b, C b → opsW mb nt ops K l (st.app o.dst ⟨.bool (nb neg b), [], 0, True⟩)
      | none => (match relC Γ mb (look st.fr) (applyUps st.H noH) st.nx o with
        | some q => dstOK nt o.dst = true ∧ q.pre ∧ ∀ R, q.S R → q.ok R = true ∧ (match q.eff R with
          | some e => opsW mb nt ops K l (st.app o.dst e)
          | none => False)
        | none => False))
    | some e => dstOK nt o.dst = true ∧ e.vc ∧ opsW mb nt ops K l (st.app o.dst e)
end

theorem applyUps_append (u h : List (Nat × Option Own)) (H : Nat → Option Own) : applyUps (u ++ h) H = applyUps u (applyUps h H) := by
  funext r
  simp only [applyUps, look_append]
  cases look u r <;> simp
theorem look_cons_upd {α : Type} (k : Nat) (x : α) (l : List (Nat × α)) : look ((k, x) :: l) = upd (look l) k (some x) := by
  funext n; simp [look, upd]
theorem app_fr (st : AState) (d : Option Nat) (e : Eff) : look (st.app d e).fr = updD (look st.fr) d (some e.x) := by
  cases d with
  | none => rfl
  | some k => exact look_cons_upd k e.x st.fr

section
variable {E : Env} {fr : Nat → Option AV} {H : Nat → Option Own} {Kn : Nat → Prop} {σ : Sig} {a : Act} {w w' : World} {o : Oper} {nx : Nat}
variable {T : TypeId → Option TD} {Γ : FuncId → Option Ctr} {mb : List Nat}

theorem evA_sound (F : Fits E fr H Kn σ a w) (x : Operand) (y : AV) (h : evA fr x = some y) : Knows E Kn σ w y (a.eval x) := by
  cases x with
  | tmp t => exact F.frame t y h
  | const v => simp only [evA, Option.some.injEq] at h; subst h; intro _ _; exact ofVal_rel v
  | global g => simp [evA] at h
  | func f => simp only [evA, Option.some.injEq] at h; subst h; intro _ _; exact ⟨[], rfl, rfl⟩

theorem strip_sound {x : AV} {v : Value} (h : Knows E Kn σ w x v) (hp : stripP x) : Knows E Kn σ w (stripV x) v := by
  cases x <;> first | exact h | exact fun σ'' h'' => (h σ'' h'').1 hp

theorem pick_run {P : Program} {c x y : Operand} {b : Bool} (ho : o.op = .pick c x y) (hc : a.eval c = .bool b) : (execOp a.eval o).run P w = .ok (.value (if b then a.eval x else a.eval y)) w := by
  simp [execOp, ho, hc, asBool]

theorem pick_sound {c x y : Operand} {p q r : AV} {z : AV × Prop} (hp : Knows E Kn σ w p (a.eval c)) (hq : Knows E Kn σ w q (a.eval x)) (hr : Knows E Kn σ w r (a.eval y)) (h : pickAV p q r = some z) (hvc : z.2) :
    ∃ b, a.eval c = .bool b ∧ Knows E Kn σ w z.1 (if b then a.eval x else a.eval y) := by
  unfold pickAV at h
  split at h
  · rename_i bc ba bb h1 h2 h3
    simp only [Option.some.injEq] at h; subst h
    obtain ⟨v1, v2, v3⟩ := hvc
    have hc := strip_sound hp v1
    rw [h1] at hc
    refine ⟨bc, hc.self, ?_⟩
    cases bc with
    | true => have := strip_sound hq (v2 rfl); rw [h2] at this; simpa using this
    | false => have := strip_sound hr (v3 rfl); rw [h3] at this; simpa using this
  · cases h

theorem opQ_sound (ev : Operand → Option AV) : ∀ (xs : List Operand), opQ ev xs → ∀ x ∈ xs, ∀ y, ev x = some y → stripP y
  | [], _, x, hx, _, _ => by cases hx
  | z :: xs, h, x, hx, y, hy => by
    rcases List.mem_cons.1 hx with rfl | hx
    · have := h.1; rw [hy] at this; exact this
    · exact opQ_sound ev xs h.2 x hx y hy

/-- The step only looks at the operation's own operands. -/
theorem evL_on {ev ev' : Operand → Option AV} (xs : List Operand) (h : ∀ x ∈ xs, ev x = ev' x) : evL ev xs = evL ev' xs := evL_congr xs h

theorem stepOp_ev {ev ev' : Operand → Option AV} (h : ∀ x ∈ o.op.operands.toList, ev x = ev' x) : stepOp T Γ mb ev H nx o = stepOp T Γ mb ev' H nx o := by
  cases hop : o.op <;> simp only [hop, Op.operands] at h <;> simp only [stepOp, hop]
  case move x => rw [h x (by simp)]
  case assign x => rw [h x (by simp)]
  case binOp op t x y t' => rw [h x (by simp), h y (by simp)]
  case unOp op t x => rw [h x (by simp)]
  case convert s t x => rw [h x (by simp)]
  case nilCheck x => rw [h x (by simp)]
  case extract x i => rw [h x (by simp)]
  case field t x k => rw [h x (by simp)]
  case fieldAddr t x k => rw [h x (by simp)]
  case box t x => rw [h x (by simp)]
  case load t x => rw [h x (by simp)]
  case store t x y => rw [h x (by simp), h y (by simp)]
  case indexAddr t x y => rw [h x (by simp), h y (by simp)]
  case makeSlice t l c => rw [h l (by simp), h c (by simp)]
  case slice t x lo hi mx =>
    have hx := h x (by simp)
    have hlo : ∀ z, lo = some z → ev z = ev' z := fun z e => h z (by subst e; simp)
    have hhi : ∀ z, hi = some z → ev z = ev' z := fun z e => h z (by subst e; simp)
    have e1 : lo.bind ev = lo.bind ev' := by cases lo with | none => rfl | some z => simp [hlo z rfl]
    have e2 : hi.bind ev = hi.bind ev' := by cases hi with | none => rfl | some z => simp [hhi z rfl]
    have e3 : (lo.all fun z => (ev z).isSome) = (lo.all fun z => (ev' z).isSome) := by cases lo with | none => rfl | some z => simp [hlo z rfl]
    have e4 : (hi.all fun z => (ev z).isSome) = (hi.all fun z => (ev' z).isSome) := by cases hi with | none => rfl | some z => simp [hhi z rfl]
    rw [hx, e1, e2, e3, e4]
  case build t ps => rw [evL_on _ (fun x hx => h x (by simpa using hx))]
  case buildSlice t n ps => rw [evL_on _ (fun x hx => h x (by simpa using hx))]
  case makeFunc fn first caps => rw [evL_on _ (fun x hx => h x (by simp at hx ⊢; exact .inr hx))]
  case call c =>
    simp only [Call.operands] at h
    have hargs : ∀ x ∈ c.args.toList, ev x = ev' x := fun x hx => h x (by simp at hx ⊢; exact .inr hx)
    cases hc : c.callee with
    | value f =>
      have hf : ev f = ev' f := h f (by simp [hc])
      simp only [hf, evL_on _ hargs]
    | invoke r m => rfl
    | builtin b =>
      cases b <;> simp only [evL_on _ hargs]
      case len =>
        split
        · rename_i x t ha hat
          rw [hargs x (by rw [ha]; simp)]
        · rfl
      case append =>
        split
        · rename_i x y t t' ha hat
          rw [hargs x (by rw [ha]; simp), hargs y (by rw [ha]; simp)]
        · rfl

/-- One operation, its guard looked at. -/
theorem stepG0_sound (hT : ∀ t d, T t = some d → TyOK E.P t d) (hG : ∀ f C, Γ f = some C → Meets E.P f C) (F : Fits E fr H Kn σ a w) {ops : List Oper} {eff : Eff} (hnx : ∀ i, i < eff.news → ¬ Kn (nx + i)) (hd : dstOK E.nt o.dst = true)
    (h : stepG0 T Γ mb ops fr H nx o = some eff) (hvc : eff.vc) (K : Act → World → Prop) (Q : Exit → Act → World → Prop)
    (hK : ∀ a' w' σ', Fits E (updD fr o.dst (some eff.x)) (applyUps eff.ups H) (fun r => Kn r ∨ (nx ≤ r ∧ r < nx + eff.news)) σ' a' w' → K a' w') :
    if Region.wanted o (yielded ops.toArray a.tmps) then o.wp E.P a w K Q else K (a.put o.dst undef) w := by
  have hdk : ∀ k, o.dst = some k → k < E.nt := fun k hk => by rw [hk] at hd; simpa [dstOK] using hd
  have fin : ∀ eff : Eff, Step E fr H Kn a w o nx eff → (∀ a' w' σ', Fits E (updD fr o.dst (some eff.x)) (applyUps eff.ups H) (fun r => Kn r ∨ (nx ≤ r ∧ r < nx + eff.news)) σ' a' w' → K a' w') → o.wp E.P a w K Q := by
    intro eff hs hK
    exact hs K Q fun v w' σ' hF hx => hK _ _ σ' (hF.putD o.dst hdk eff.x v hx)
  unfold stepG0 at h
  cases hg : o.guard with
  | none =>
    have hw : Region.wanted o (yielded ops.toArray a.tmps) = true := by simp [Region.wanted, hg]
    rw [if_pos hw]
    simp only [hg] at h
    split at h
    · rename_i c x y hop
      split at h
      · rename_i p q r hp hq hr
        rw [Option.map_eq_some_iff] at h; obtain ⟨z, hz, rfl⟩ := h
        obtain ⟨b, hb, hkn⟩ := pick_sound (evA_sound F c p hp) (evA_sound F x q hq) (evA_sound F y r hr) hz hvc
        exact fin _ (Good.step (good_pure F (pick_run hop hb) hkn)) hK
      · cases h
    · exact fin _ (step_sound hT hG F (fun x y hy => evA_sound F x y hy) hnx h hvc) hK
  | some g =>
    simp only [hg] at h
    split at h
    · cases h
    · rename_i pc hpc
      -- the guard's slot
      have hguard : (pc → Region.wanted o (yielded ops.toArray a.tmps) = true) ∧ (Region.wanted o (yielded ops.toArray a.tmps) = true → pc) := by
        unfold guardP at hpc
        split at hpc
        · rename_i d hd'
          have hy : ∀ v, a.tmps.getD d undef = v → yielded ops.toArray a.tmps g.1 = (match v with | .bool b => some b | _ => none) := by
            intro v hv
            unfold yielded
            have e1 : (ops.toArray[g.1]?).bind (·.dst) = some d := by simpa using hd'
            rw [e1]
            simp only [Option.bind_some]
            cases ht : a.tmps[d]? with
            | none => rw [← hv]; simp [ht, undef]
            | some u => have : u = v := by rw [← hv]; simp [ht]
                        rw [this]; cases v <;> rfl
          split at hpc
          · rename_i b hb
            simp only [Option.some.injEq] at hpc; subst hpc
            have hv : a.tmps.getD d undef = .bool b := F.frame d _ hb σ (fun _ _ => rfl)
            have := hy _ hv
            simp [Region.wanted, hg, this]
          · rename_i q b hb
            simp only [Option.some.injEq] at hpc; subst hpc
            have hv := F.frame d _ hb σ (fun _ _ => rfl)
            by_cases hq : q
            · have hv : a.tmps.getD d undef = .bool b := hv.1 hq
              have := hy _ hv
              simp [Region.wanted, hg, this, hq]
            · have hv := hv.2 hq
              have := hy _ hv
              simp [Region.wanted, hg, this, hq, undef]
          · cases hpc
        · cases hpc
      have whenOK : ∀ (x : AV) (v : Value), pc → Knows E Kn σ w x v → Knows E Kn σ w (.when pc x) v := fun x v hp hx σ'' h'' => ⟨fun _ => hx σ'' h'', fun hn => absurd hp hn⟩
      have skip : ¬ pc → ∀ x : AV, Fits E (updD fr o.dst (some (.when pc x))) H Kn σ (a.put o.dst undef) w := fun hn x =>
        F.putD o.dst hdk _ _ (fun σ'' _ => ⟨fun hp => absurd hp hn, fun _ => rfl⟩)
      split at h
      · split at h
        · cases h
        · split at h
          · rename_i eff0 hs
            simp only [Option.some.injEq] at h; subst h
            obtain ⟨hp, hoq, hvc0⟩ := hvc
            rw [if_pos (hguard.1 hp)]
            classical
            let ev2 : Operand → Option AV := fun x => if x ∈ o.op.operands.toList then (evA fr x).map stripV else none
            have hs2 : stepOp T Γ mb ev2 H nx o = some eff0 := by
              rw [← hs]; exact stepOp_ev (fun x hx => by simp only [ev2]; rw [if_pos hx])
            have hev2 : ∀ x y, ev2 x = some y → Knows E Kn σ w y (a.eval x) := by
              intro x y hy
              simp only [ev2] at hy
              split at hy
              · rename_i hx
                rw [Option.map_eq_some_iff] at hy; obtain ⟨z, hz, rfl⟩ := hy
                exact strip_sound (evA_sound F x z hz) (opQ_sound _ _ hoq x hx z hz)
              · cases hy
            have hst := step_sound hT hG F hev2 (eff := eff0) hnx hs2 hvc0
            exact fin _ hst hK
          · cases h
      split at h
      · simp only [Option.some.injEq] at h; subst h
        have hnw : ¬ Region.wanted o (yielded ops.toArray a.tmps) = true := fun hw => hvc (hguard.2 hw)
        rw [if_neg hnw]
        exact hK _ _ σ (by simp only [ups0, kn0]; exact skip hvc _)
      by_cases hp : pc
      · rw [if_pos (hguard.1 hp)]
        split at h
        · rename_i c x y hop
          split at h
          · rename_i p q r hcp hq hr
            rw [Option.map_eq_some_iff] at h; obtain ⟨z, hz, rfl⟩ := h
            obtain ⟨b, hb, hkn⟩ := pick_sound (evA_sound F c p hcp) (evA_sound F x q hq) (evA_sound F y r hr) hz (hvc hp)
            exact fin _ (Good.step (good_pure F (pick_run hop hb) (whenOK _ _ hp hkn))) hK
          · cases h
        · rename_i hnp
          split at h
          · rename_i eff0 hs
            split at h
            · rename_i he
              simp only [Option.some.injEq] at h; subst h
              obtain ⟨hoq, hvc0⟩ := hvc hp
              obtain ⟨ex, eu, en, ev0⟩ := eff0
              simp only [List.isEmpty_iff] at he
              obtain ⟨rfl, rfl⟩ := he
              classical
              -- evaluation that is sound at every operand
              let ev2 : Operand → Option AV := fun x => if x ∈ o.op.operands.toList then (evA fr x).map stripV else none
              have hs2 : stepOp T Γ mb ev2 H nx o = some ⟨ex, [], 0, ev0⟩ := by
                rw [← hs]; exact stepOp_ev (fun x hx => by simp only [ev2]; rw [if_pos hx])
              have hev2 : ∀ x y, ev2 x = some y → Knows E Kn σ w y (a.eval x) := by
                intro x y hy
                simp only [ev2] at hy
                split at hy
                · rename_i hx
                  rw [Option.map_eq_some_iff] at hy; obtain ⟨z, hz, rfl⟩ := hy
                  exact strip_sound (evA_sound F x z hz) (opQ_sound _ _ hoq x hx z hz)
                · cases hy
              have hst := step_sound hT hG F hev2 (by simp) hs2 hvc0
              refine hst K Q fun v w' σ' hF hx => hK _ _ σ' (hF.putD o.dst hdk _ v ?_)
              exact fun σ'' h'' => ⟨fun _ => hx σ'' h'', fun hn => absurd hp hn⟩
            · cases h
          · cases h
      · have hnw : ¬ Region.wanted o (yielded ops.toArray a.tmps) = true := fun hw => hp (hguard.2 hw)
        rw [if_neg hnw]
        split at h
        · split at h
          · rw [Option.map_eq_some_iff] at h; obtain ⟨z, hz, rfl⟩ := h
            exact hK _ _ σ (by simp only [ups0, kn0]; exact skip hp _)
          · cases h
        · split at h
          · split at h
            · simp only [Option.some.injEq] at h; subst h
              exact hK _ _ σ (by simp only [ups0, kn0]; exact skip hp _)
            · cases h
          · cases h

theorem Fits.freeze {k r : Nat} {e : TypeId} {τ : FT} {xs : List τ.T} (F : Fits E (upd fr k (some (.sl r))) H Kn σ a w) (hH : H r = some (.sl e τ xs)) : Fits E (upd fr k (some (.rs τ xs))) (upd H r none) Kn (upd σ r none) a w := by
  obtain ⟨s, bs, h1, h2⟩ := F.heap r _ hH
  have hv : a.tmps.getD k undef = s := F.frame k (.sl r) (upd_same _ _ _) σ (fun _ _ => rfl) s bs h1
  have hD := F.dropD r s bs h1
  refine { F.drop r with frame := ?_ }
  intro t x hx σ'' h''
  by_cases ht : t = k
  · subst ht
    rw [upd_same] at hx; cases hx
    rw [hv]
    exact snap_flat (h2 σ (fun _ _ => rfl)) hD
  · rw [upd_ne _ _ ht] at hx
    exact (F.drop r).frame t x (by rw [upd_ne _ _ ht]; exact hx) σ'' h''
theorem Fits.freezeR {k r : Nat} {e : TypeId} {xss : List (List Int)} (F : Fits E (upd fr k (some (.sl r))) H Kn σ a w) (hH : H r = some (.rows e xss)) : Fits E (upd fr k (some (.rows xss))) (upd H r none) Kn (upd σ r none) a w := by
  obtain ⟨s, bs, h1, h2⟩ := F.heap r _ hH
  have hv : a.tmps.getD k undef = s := F.frame k (.sl r) (upd_same _ _ _) σ (fun _ _ => rfl) s bs h1
  have hD := F.dropD r s bs h1
  refine { F.drop r with frame := ?_ }
  intro t x hx σ'' h''
  by_cases ht : t = k
  · subst ht
    rw [upd_same] at hx; cases hx
    rw [hv]
    exact snap_rows (h2 σ (fun _ _ => rfl)) hD (by
      rintro b (⟨q, s', bs', h3, h4⟩ | h)
      · by_cases hq : q = r
        · rw [hq, upd_same] at h3; cases h3
        · rw [upd_ne _ _ hq] at h3; exact .inl ⟨q, s', bs', h3, h4⟩
      · exact .inr h)
  · rw [upd_ne _ _ ht] at hx
    exact (F.drop r).frame t x (by rw [upd_ne _ _ ht]; exact hx) σ'' h''
theorem applyUps_drop (r : Nat) (u : List (Nat × Option Own)) (H : Nat → Option Own) : applyUps ((r, none) :: u) H = upd (applyUps u H) r none := by
  funext p
  simp only [applyUps, look, upd]
  by_cases hp : p = r
  · simp only [hp, if_true]
  · simp only [hp, if_false]
theorem fz_fits {mb : List Nat} {e0 eff : Eff} {d : Option Nat} (h : fzE mb d e0 = some eff) (F : Fits E (updD fr d (some e0.x)) (applyUps e0.ups H) Kn σ a w) : eff.news = e0.news ∧ ∃ σ', Fits E (updD fr d (some eff.x)) (applyUps eff.ups H) Kn σ' a w := by
  unfold fzE at h
  split at h
  · rename_i hf
    split at h
    · rename_i r hr
      split at h
      · rename_i e τ xs hl
        simp only [Option.some.injEq] at h; subst h
        cases d with
        | none => cases hf
        | some k =>
          rw [hr] at F
          have h5 : applyUps e0.ups H r = some (.sl e τ xs) := by simp only [applyUps, hl]
          refine ⟨rfl, upd σ r none, ?_⟩
          rw [applyUps_drop]
          exact Fits.freeze (fr := fr) F h5
      · rename_i e xss hl
        simp only [Option.some.injEq] at h; subst h
        cases d with
        | none => cases hf
        | some k =>
          rw [hr] at F
          have h5 : applyUps e0.ups H r = some (.rows e xss) := by simp only [applyUps, hl]
          refine ⟨rfl, upd σ r none, ?_⟩
          rw [applyUps_drop]
          exact Fits.freezeR (fr := fr) F h5
      · cases h
    · cases h
  · simp only [Option.some.injEq] at h; subst h
    exact ⟨rfl, σ, F⟩
theorem rel_sound (hG : ∀ f C, Γ f = some C → Meets E.P f C) (F : Fits E fr H Kn σ a w) {mb : List Nat} {q : RelC} (hd : dstOK E.nt o.dst = true) (h : relC Γ mb fr H nx o = some q) (hpre : q.pre) (hnx : ∀ i, ¬ Kn (nx + i))
    (K : Act → World → Prop) (Q : Exit → Act → World → Prop)
    (hK : ∀ R, q.S R → q.ok R = true ∧ ∃ e, q.eff R = some e ∧ ∀ a' w' σ', Fits E (updD fr o.dst (some e.x)) (applyUps e.ups H) (fun r => Kn r ∨ (nx ≤ r ∧ r < nx + e.news)) σ' a' w' → K a' w') :
    o.guard = none ∧ o.wp E.P a w K Q := by
  unfold relC at h
  split at h
  · cases h
  rename_i hg
  split at h
  case h_2 => cases h
  rename_i c hop
  split at h
  case h_2 => cases h
  rename_i f hc
  split at h
  case h_2 => cases h
  rename_i g caps hf
  split at h
  case h_2 => cases h
  rename_i ys C hys hC
  split at h
  case h_2 => cases h
  rename_i rl hrl
  split at h
  case h_2 => cases h
  rename_i as os sn hconv
  split at h
  case h_2 => cases h
  rename_i pre S hrun
  simp only [Option.some.injEq] at h; subst h
  have hev : ∀ x y, evA fr x = some y → Knows E Kn σ w y (a.eval x) := fun x y hx => evA_sound F x y hx
  have hdk : ∀ k, o.dst = some k → k < E.nt := fun k hk => by rw [hk] at hd; simpa [dstOK] using hd
  have hM := hG g C hC
  refine ⟨hg, step_callR (nx := nx) F hM.1 (hM.2.2 rl hrl) hop hc (hev _ _ hf) (evL_sound hev _ _ hys) hconv hrun hpre.1 hpre.2 K Q (fun R hR => ?_)⟩
  obtain ⟨h1, e, he, hK⟩ := hK R hR
  refine ⟨h1, fun i _ => hnx i, fun v w' σ' F' hx => ?_⟩
  have F2 := F'.putD o.dst hdk _ v hx
  obtain ⟨hn, σ2, F3⟩ := fz_fits he F2
  refine hK _ _ σ2 ?_
  rw [hn]
  exact F3
theorem stepG_sound (hT : ∀ t d, T t = some d → TyOK E.P t d) (hG : ∀ f C, Γ f = some C → Meets E.P f C) (F : Fits E fr H Kn σ a w) {ops : List Oper} {eff : Eff} (hnx : ∀ i, i < eff.news → ¬ Kn (nx + i)) (hd : dstOK E.nt o.dst = true)
    (h : stepG T Γ mb ops fr H nx o = some eff) (hvc : eff.vc) (K : Act → World → Prop) (Q : Exit → Act → World → Prop)
    (hK : ∀ a' w' σ', Fits E (updD fr o.dst (some eff.x)) (applyUps eff.ups H) (fun r => Kn r ∨ (nx ≤ r ∧ r < nx + eff.news)) σ' a' w' → K a' w') :
    if Region.wanted o (yielded ops.toArray a.tmps) then o.wp E.P a w K Q else K (a.put o.dst undef) w := by
  unfold stepG at h
  split at h
  · rename_i e0 h0
    unfold fzE at h
    split at h
    · rename_i hf
      split at h
      · rename_i r hr
        split at h
        · rename_i e τ xs hl
          simp only [Option.some.injEq] at h; subst h
          refine stepG0_sound (eff := e0) hT hG F hnx hd h0 hvc K Q (fun a' w' σ' F' => ?_)
          cases hd' : o.dst with
          | none => rw [hd'] at hf; cases hf
          | some k =>
            rw [hd', hr] at F'
            have h5 : applyUps e0.ups H r = some (.sl e τ xs) := by simp only [applyUps, hl]
            have h6 := Fits.freeze (fr := fr) F' h5
            refine hK a' w' (upd σ' r none) ?_
            rw [hd', applyUps_drop]
            exact h6
        · rename_i e xss hl
          simp only [Option.some.injEq] at h; subst h
          refine stepG0_sound (eff := e0) hT hG F hnx hd h0 hvc K Q (fun a' w' σ' F' => ?_)
          cases hd' : o.dst with
          | none => rw [hd'] at hf; cases hf
          | some k =>
            rw [hd', hr] at F'
            have h5 : applyUps e0.ups H r = some (.rows e xss) := by simp only [applyUps, hl]
            have h6 := Fits.freezeR (fr := fr) F' h5
            refine hK a' w' (upd σ' r none) ?_
            rw [hd', applyUps_drop]
            exact h6
        · cases h
      · cases h
    · simp only [Option.some.injEq] at h; subst h
      exact stepG0_sound hT hG F hnx hd h0 hvc K Q hK
  · cases h

theorem nil_run {P : Program} {t e t' : TypeId} {op : BinOp} {x y : Operand} {ad : Option Addr} {n c : Nat} (ht : P.underlying t = some (.slice e)) (ho : o.op = .binOp op t x y t') (hy : isNilC y = true) (hx : a.eval x = .slice ad n c) {neg : Bool} (hop : (op = .eql ∧ neg = false) ∨ (op = .neq ∧ neg = true)) :
    (execOp a.eval o).run P w = .ok (.value (.bool (nb neg ad.isNone))) w := by
  have hyv : a.eval y = .slice none 0 0 := by
    unfold isNilC at hy
    split at hy
    · rfl
    · cases hy
  have hg : (eqGuard op t x y (.slice ad n c) (.slice none 0 0)).run P w = .ok () w := by unfold eqGuard; split <;> simp
  rcases hop with ⟨rfl, rfl⟩ | ⟨rfl, rfl⟩
  · simp [execOp, ho, hx, hyv, hg, Lib.run_eql_slice_nil w t e ad n c 0 0 ht, nb]
  · simp [execOp, ho, hx, hyv, hg, run_neq_slice_nil_any w t e ad n c 0 0 ht, nb]
theorem nilC_sound {x : Operand} {v : AV} {C : Bool → Prop} (F : Fits E fr H Kn σ a w) (hk : Knows E Kn σ w v (a.eval x)) (h : nilC H v = some C) : ∃ ad n c, a.eval x = .slice ad n c ∧ C ad.isNone := by
  have hs := hk.self
  unfold nilC at h
  split at h
  · cases h; exact ⟨none, 0, 0, hs, rfl⟩
  · cases h
    rcases hs with ⟨h1, ad, cap, h2⟩ | ⟨b, off, cap, h2, _⟩
    · exact ⟨ad, 0, cap, h2, fun _ => by rw [h1]; rfl⟩
    · exact ⟨_, _, _, h2, fun h => by cases h⟩
  · rename_i r
    split at h
    · rename_i e τ xs hH
      cases h
      obtain ⟨s, bs, h1, h2⟩ := F.heap r _ hH
      have hv : a.eval x = s := hs s bs h1
      obtain ⟨hown, _⟩ := h2 σ (fun _ _ => rfl)
      rcases hown.2 with ⟨h3, h4⟩ | ⟨g, cap, cur, h3, _⟩
      · exact ⟨none, 0, 0, by rw [hv, h3], fun _ => h4⟩
      · exact ⟨_, _, _, by rw [hv, h3], fun h => by cases h⟩
    · cases h
  · cases h
theorem nil_sound (hT : ∀ t d, T t = some d → TyOK E.P t d) (F : Fits E fr H Kn σ a w) {neg : Bool} {C : Bool → Prop} (h : nilCmp T fr H o = some (neg, C)) : o.guard = none ∧ ∃ b, C b ∧ Good E fr H Kn a w o nx ⟨.bool (nb neg b), [], 0, True⟩ := by
  unfold nilCmp at h
  split at h
  · cases h
  · rename_i hg
    refine ⟨hg, ?_⟩
    split at h
    · rename_i op t x y t' ho
      split at h
      · rename_i hy
        have key : ∀ (e : TypeId) (τ : FT), (T t).map TD.kd = some (.sl e τ) → ∀ v, evA fr x = some v → ∀ (neg' : Bool), ((op = .eql ∧ neg' = false) ∨ (op = .neq ∧ neg' = true)) → ∀ C', nilC H v = some C' → ∃ b, C' b ∧ Good E fr H Kn a w o nx ⟨.bool (nb neg' b), [], 0, True⟩ := by
          intro e τ hk v hv neg' hop C' hC
          rw [Option.map_eq_some_iff] at hk
          obtain ⟨d, hd, hkd⟩ := hk
          have hty := hT t d hd
          have hu : E.P.underlying t = some (.slice e) := by
            have := hty.2.2
            rw [hkd] at this
            exact this.1
          obtain ⟨ad, n, c, h1, h2⟩ := nilC_sound F (evA_sound F x v hv) hC
          exact ⟨_, h2, good_pure F (nil_run hu ho hy h1 hop) (fun _ _ => rfl)⟩
        split at h
        · rename_i e τ hk
          split at h
          · rename_i v hv
            rw [Option.map_eq_some_iff] at h
            obtain ⟨C', hC, he⟩ := h
            simp only [Prod.mk.injEq] at he
            obtain ⟨rfl, rfl⟩ := he
            exact key e τ hk v hv false (.inl ⟨rfl, rfl⟩) _ hC
          · cases h
        · rename_i e τ hk
          split at h
          · rename_i v hv
            rw [Option.map_eq_some_iff] at h
            obtain ⟨C', hC, he⟩ := h
            simp only [Prod.mk.injEq] at he
            obtain ⟨rfl, rfl⟩ := he
            exact key e τ hk v hv true (.inr ⟨rfl, rfl⟩) _ hC
          · cases h
        · cases h
      · cases h
    · cases h
end
end Go.Proofs.Ytpiaeckkjdcifaa
