/- The core of the method, a rule more: a region whose operations are reckoned on known values. No condition. -/
import Derived.Test.YtjkghldkemoddaaCoreQ
import Derived.LoopN
namespace Go.Proofs.Ytjkghldkemoddaa
set_option linter.unusedVariables false
set_option linter.unusedSimpArgs false
open Go

/-- The very value. -/
def exV : AV → Option Value
  | .int n => some (.int .i64 n)
  | .u8 n => some (.int .u8 n)
  | .bool b => some (.bool b)
  | .val v => some v
  | _ => none
def rhoA (fr : Nat → Option AV) (x : Operand) : Value := match evA fr x with | some y => (match exV y with | some v => v | none => undef) | none => undef
def exAll (fr : Nat → Option AV) (o : Oper) : Bool := o.op.operands.toList.all fun x => match evA fr x with | some y => (exV y).isSome | none => false
def noSel (o : Oper) : Bool := match o.op with | .select _ _ => false | _ => true

def opsX (P : Program) (nt : Nat) (K : AState → Prop) : List (Oper × Value) → AState → Prop
  | [], st => K st
  | (o, v) :: l, st => (dstOK nt o.dst = true ∧ o.guard = none ∧ noSel o = true ∧ exAll (look st.fr) o = true) ∧ (∀ w, (execOp (rhoA (look st.fr)) o).run P w = .ok (.value v) w) ∧ opsX P nt K l (st.app o.dst ⟨ofVal v, [], 0, True⟩)

section
variable {E : Env} {st : AState} {Q : Exit → AState → Prop}

theorem exV_rel {w : World} {D : Nat → Prop} {σ : Sig} {y : AV} {u v : Value} (h : exV y = some v) (hr : RelV w D σ y u) : u = v := by
  cases y <;> simp only [exV, Option.some.injEq, reduceCtorEq] at h <;> subst h <;> exact hr

theorem opsX_sound {ops : Array Oper} (K : AState → Prop) (Q' : Exit → Act → World → Prop) (hQ : ∀ s a w, K s → FitsS E s a w → Q' .normal a w) :
    ∀ (l : List (Oper × Value)) (st : AState) (a : Act) (w : World), opsX E.P E.nt K l st → FitsS E st a w → wpList E.P ops Q' (l.map Prod.fst) a w
  | [], st, a, w, h, F => hQ st a w h F
  | (o, v) :: l, st, a, w, h, F => by
    obtain ⟨⟨hd, hg, hsel, hall⟩, hrun, hrest⟩ := h
    obtain ⟨σ, F⟩ := F
    refine wpList_step fun K' hK' => ?_
    have hw : Region.wanted o (yielded ops a.tmps) = true := by simp [Region.wanted, hg]
    rw [if_pos hw]
    have hcongr : execOp a.eval o = execOp (rhoA (look st.fr)) o := by
      refine execOp_congr o (fun cs b e => by simp [noSel, e] at hsel) (fun x hx => ?_)
      have := List.all_eq_true.1 hall x (by simpa using hx)
      simp only [rhoA]
      cases hy : evA (look st.fr) x with
      | none => simp [hy] at this
      | some y =>
        simp only [hy] at this
        obtain ⟨u, hu⟩ := Option.isSome_iff_exists.1 this
        simp only [hu]
        exact exV_rel hu (evA_sound F x y hy).self
    have hdk : ∀ k, o.dst = some k → k < E.nt := fun k hk => by rw [hk] at hd; simpa [dstOK] using hd
    have hst : Step E (look st.fr) (applyUps st.H noH) (fun r => r < st.nx) a w o st.nx ⟨ofVal v, [], 0, True⟩ :=
      Good.step (good_pure F (by rw [hcongr]; exact hrun w) (fun σ'' _ => ofVal_rel v))
    refine hst K' Q' fun v' w' σ' hF hx => hK' _ _ (opsX_sound K Q' hQ l _ _ w' hrest ⟨σ', ?_⟩)
    have F' := hF.putD o.dst hdk (ofVal v) v' hx
    simp only [ups0, kn0] at F'
    rw [app_fr]
    exact F'

theorem W_region_exact (ks : List Nat) (l : List (Oper × Value)) {id : Nat} (h : opsX E.P E.nt (fun s => Q .normal (keepS ks s)) l st) : W E (.region id (l.map Prod.fst).toArray false) st Q := by
  intro a w F
  refine wp_region_lit (opsX_sound _ _ ?_ l st a w h F)
  intro s a w hs Fs
  exact ⟨keepS ks s, Fs.keep ks, hs⟩

/-- Rounds written out. -/
def roundsW (E : Env) (c : Code) (Q : Exit → AState → Prop) : Nat → AState → Prop
  | 0, _ => False
  | n + 1, s => W E c s (thenQ (roundsW E c Q n) Q)
theorem W_rounds {c : Code} (n : Nat) (h : roundsW E c Q n st) : W E (.loop c) st Q := by
  intro a w F
  refine wp_loop_rounds n ?_
  have key : ∀ n st a w, roundsW E c Q n st → FitsS E st a w → Code.rounds E.P c (fun e a' w' => ∃ st', FitsS E st' a' w' ∧ Q e st') n a w := by
    intro n
    induction n with
    | zero => intro st a w h _; exact h.elim
    | succ n ih =>
      intro st a w h F
      refine wp_mono (h a w F) ?_
      rintro e a' w' ⟨s, F', hq⟩
      cases e with
      | normal => exact ih s a' w' hq F'
      | _ => exact ⟨s, F', hq⟩
  exact key n st a w h F
end
end Go.Proofs.Ytjkghldkemoddaa
