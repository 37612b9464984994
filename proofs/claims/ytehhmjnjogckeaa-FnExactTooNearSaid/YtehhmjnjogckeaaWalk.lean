/- The core of the method, helpers for walks. No condition. -/
import Derived.Test.YtehhmjnjogckeaaCoreQ
import Derived.Test.YtehhmjnjogckeaaTypes
namespace Go.Proofs.Ytehhmjnjogckeaa
set_option linter.unusedVariables false
set_option linter.unusedSimpArgs false
open Go

def memb (k : Nat) : List Nat → Bool
  | [] => false
  | a :: l => if k = a then true else memb k l
def keepL {α : Type} (ks : List Nat) : List (Nat × α) → List (Nat × α)
  | [] => []
  | (k, v) :: l => if memb k ks = true then (k, v) :: keepL ks l else keepL ks l
theorem memb_contains (k : Nat) : ∀ l : List Nat, l.contains k = memb k l
  | [] => rfl
  | a :: l => by
    rw [List.contains_cons, memb_contains k l, memb]
    by_cases h : k = a
    · subst h; simp
    · simp [h]
theorem keepS_eq (ks : List Nat) (s : AState) : keepS ks s = { s with fr := keepL ks s.fr } := by
  have : ∀ l : List (Nat × AV), l.filter (fun p => ks.contains p.1) = keepL ks l := by
    intro l
    induction l with
    | nil => rfl
    | cons p l ih => rw [List.filter_cons, ih]; simp only [keepL, memb_contains]
  simp only [keepS, this]

/-- A function that hands back no new thing and is lent none. -/
theorem ret0 {fn : Func} {C : Ctr} {pre : Prop} {r : AV} {st : AState} (h : resAV tyT st fn.results.toList = some r) (hb : boundV 0 r = true) (hm : mIdx 0 C.modes = []) (hr : C.al = true ∨ noRo r = true) (hren : renV (fun i => ([] : List Nat).getD i 0) r = r) : ∃ rs, RetOK tyT fn C ⟨pre, r, [], []⟩ rs st :=
  ⟨[], { res := by rw [h]; exact congrArg some hren.symm, bnd := hb, len := rfl, nodup := List.nodup_nil, fresh := (by simp), news := (by simp), mlen := (by rw [hm]; rfl), muts := (by simp), ro := hr.imp id fun h => ⟨h, rfl, rfl⟩ }⟩
/-- One new thing, no lent. -/
theorem ret1 {fn : Func} {C : Ctr} {pre : Prop} {r : AV} {o : Own} {st : AState} (k : Nat) (h : resAV tyT st fn.results.toList = some (renV (fun _ => k) r)) (hb : boundV 1 r = true) (hm : mIdx 0 C.modes = []) (ho : applyUps st.H noH k = some o) (hr : C.al = true ∨ (noRo r = true ∧ noRoO o = true)) (hren : renV (fun i => [k].getD i 0) r = renV (fun _ => k) r) : ∃ rs, RetOK tyT fn C ⟨pre, r, [o], []⟩ rs st :=
  ⟨[k], { res := by rw [h]; exact congrArg some hren.symm, bnd := hb, len := rfl, nodup := (by simp), fresh := (by rw [hm]; simp), news := (fun i hi => match i, (by simpa using hi : i = 0) with | _, rfl => by simpa using ho), mlen := (by rw [hm]; rfl), muts := (by simp), ro := hr.imp id fun h => ⟨h.1, by simp [h.2], rfl⟩ }⟩
/-- One lent thing, no new. -/
theorem retm {fn : Func} {C : Ctr} {pre : Prop} {r : AV} {o : Own} {st : AState} (k : Nat) (h : resAV tyT st fn.results.toList = some r) (hb : boundV 0 r = true) (hm : mIdx 0 C.modes = [k]) (ho : applyUps st.H noH k = some o) (hr : C.al = true ∨ (noRo r = true ∧ noRoO o = true)) (hren : renV (fun i => ([] : List Nat).getD i 0) r = r) : ∃ rs, RetOK tyT fn C ⟨pre, r, [], [o]⟩ rs st :=
  ⟨[], { res := by rw [h]; exact congrArg some hren.symm, bnd := hb, len := rfl, nodup := List.nodup_nil, fresh := (by simp), news := (by simp), mlen := (by rw [hm]; rfl), muts := (fun i hi => match i, (by simpa using hi : i = 0) with | _, rfl => by rw [hm]; simpa using ho), ro := hr.imp id fun h => ⟨h.1, rfl, by simp [h.2]⟩ }⟩
theorem ret0b {fn : Func} {C : Ctr} {pre : Prop} {x y : Bool} {st : AState} (h : resAV tyT st fn.results.toList = some (.bool x)) (hm : mIdx 0 C.modes = []) (e : x = y) : ∃ rs, RetOK tyT fn C ⟨pre, .bool y, [], []⟩ rs st := by
  subst e; exact ret0 h rfl hm (.inr rfl) rfl
theorem ret0i {fn : Func} {C : Ctr} {pre : Prop} {x y : Int} {st : AState} (h : resAV tyT st fn.results.toList = some (.int x)) (hm : mIdx 0 C.modes = []) (e : x = y) : ∃ rs, RetOK tyT fn C ⟨pre, .int y, [], []⟩ rs st := by
  subst e; exact ret0 h rfl hm (.inr rfl) rfl
theorem ret1s {fn : Func} {C : Ctr} {pre : Prop} {e : TypeId} {τ : FT} {xs ys : List τ.T} {st : AState} (k : Nat) (h : resAV tyT st fn.results.toList = some (.sl k)) (hm : mIdx 0 C.modes = []) (ho : applyUps st.H noH k = some (.sl e τ xs)) (e' : xs = ys) : ∃ rs, RetOK tyT fn C ⟨pre, .sl 0, [.sl e τ ys], []⟩ rs st := by
  subst e'; exact ret1 k h rfl hm ho (.inr ⟨rfl, rfl⟩) rfl
theorem ret1sb {fn : Func} {C : Ctr} {pre : Prop} {e : TypeId} {τ : FT} {xs ys : List τ.T} {x y : Bool} {st : AState} (k : Nat) (h : resAV tyT st fn.results.toList = some (.tup [.sl k, .bool x])) (hm : mIdx 0 C.modes = []) (ho : applyUps st.H noH k = some (.sl e τ xs)) (e' : xs = ys) (e2 : x = y) : ∃ rs, RetOK tyT fn C ⟨pre, .tup [.sl 0, .bool y], [.sl e τ ys], []⟩ rs st := by
  subst e'; subst e2; exact ret1 k h rfl hm ho (.inr ⟨rfl, rfl⟩) rfl
theorem ret1si {fn : Func} {C : Ctr} {pre : Prop} {e : TypeId} {τ : FT} {xs ys : List τ.T} {x y : Int} {st : AState} (k : Nat) (h : resAV tyT st fn.results.toList = some (.tup [.sl k, .int x])) (hm : mIdx 0 C.modes = []) (ho : applyUps st.H noH k = some (.sl e τ xs)) (e' : xs = ys) (e2 : x = y) : ∃ rs, RetOK tyT fn C ⟨pre, .tup [.sl 0, .int y], [.sl e τ ys], []⟩ rs st := by
  subst e'; subst e2; exact ret1 k h rfl hm ho (.inr ⟨rfl, rfl⟩) rfl
def ownI (e : TypeId) : Option Own → Option (List Int)
  | some (.sl e' .i64 xs) => if e' = e then some xs else none
  | _ => none
def anyI : Option Own → Option (List Int)
  | some (.sl _ .i64 xs) => some xs
  | _ => none
def srcI (H : Nat → Option Own) : AV → Option (List Int)
  | .rs .i64 xs => some xs
  | .nils => some []
  | .sl r => anyI (H r)
  | _ => none
def sameR : AV → Nat → Bool
  | .sl r', r => decide (r' = r)
  | _, _ => false
def appI (H : Nat → Option Own) (nx : Nat) (e : TypeId) (x y : AV) : Option Eff :=
  match srcI H y with
  | none => none
  | some ys => match x with
    | .nils => some ⟨.sl nx, [(nx, some (.sl e .i64 ys))], 1, ys.length ≤ room⟩
    | .sl r => (match ownI e (H r) with
      | some xs => if sameR y r = true then none else some ⟨.sl nx, [(nx, some (.sl e .i64 (xs ++ ys))), (r, none)], 1, xs.length + ys.length ≤ room⟩
      | none => none)
    | _ => none
theorem srcI_eq (H : Nat → Option Own) (y : AV) : srcFlat H .i64 y = srcI H y := by
  cases y with
  | rs τ xs => cases τ <;> simp [srcFlat, srcI]
  | sl r =>
    simp only [srcFlat, srcI]
    cases H r with
    | none => rfl
    | some o =>
      cases o with
      | sl e τ xs => cases τ <;> simp [anyI]
      | _ => rfl
  | _ => rfl
theorem appAV_I (H : Nat → Option Own) (nx : Nat) (z : Value) (s b : Nat) (e : TypeId) (x y : AV) : appAV H nx ⟨z, s, b, .sl e .i64⟩ x y = appI H nx e x y := by
  simp only [appAV, appI, srcI_eq]
  cases srcI H y with
  | none => rfl
  | some ys =>
    cases x with
    | sl r =>
      simp only []
      cases H r with
      | none => rfl
      | some o =>
        cases o with
        | sl e' τ xs =>
          cases τ <;> by_cases he : e' = e <;> simp [ownI, he]
          all_goals (cases y <;> simp [sameR])
        | _ => rfl
    | _ => rfl
def ownP (e : TypeId) : Option Own → Option (List PairD)
  | some (.sl e' .pair xs) => if e' = e then some xs else none
  | _ => none
def anyP : Option Own → Option (List PairD)
  | some (.sl _ .pair xs) => some xs
  | _ => none
def srcP (H : Nat → Option Own) : AV → Option (List PairD)
  | .rs .pair xs => some xs
  | .nils => some []
  | .sl r => anyP (H r)
  | _ => none
def appP (H : Nat → Option Own) (nx : Nat) (e : TypeId) (x y : AV) : Option Eff :=
  match srcP H y with
  | none => none
  | some ys => match x with
    | .nils => some ⟨.sl nx, [(nx, some (.sl e .pair ys))], 1, ys.length ≤ room⟩
    | .sl r => (match ownP e (H r) with
      | some xs => if sameR y r = true then none else some ⟨.sl nx, [(nx, some (.sl e .pair (xs ++ ys))), (r, none)], 1, xs.length + ys.length ≤ room⟩
      | none => none)
    | _ => none
theorem srcP_eq (H : Nat → Option Own) (y : AV) : srcFlat H .pair y = srcP H y := by
  cases y with
  | rs τ xs => cases τ <;> simp [srcFlat, srcP]
  | sl r =>
    simp only [srcFlat, srcP]
    cases H r with
    | none => rfl
    | some o =>
      cases o with
      | sl e τ xs => cases τ <;> simp [anyP]
      | _ => rfl
  | _ => rfl
theorem appAV_P (H : Nat → Option Own) (nx : Nat) (z : Value) (s b : Nat) (e : TypeId) (x y : AV) : appAV H nx ⟨z, s, b, .sl e .pair⟩ x y = appP H nx e x y := by
  simp only [appAV, appP, srcP_eq]
  cases srcP H y with
  | none => rfl
  | some ys =>
    cases x with
    | sl r =>
      simp only []
      cases H r with
      | none => rfl
      | some o =>
        cases o with
        | sl e' τ xs =>
          cases τ <;> by_cases he : e' = e <;> simp [ownP, he]
          all_goals (cases y <;> simp [sameR])
        | _ => rfl
    | _ => rfl
/-- Two contracts that share the cases make one. -/
theorem meets_or {P : Program} {f : FuncId} {ms : List Md} {al : Bool} {run run1 run2 : List AV → List Own → Option CRes}
    (h : ∀ xs os R, run xs os = some R → R.pre → (∃ R1, run1 xs os = some R1 ∧ R1.pre ∧ R1.res = R.res ∧ R1.new = R.new ∧ R1.muts = R.muts) ∨ (∃ R1, run2 xs os = some R1 ∧ R1.pre ∧ R1.res = R.res ∧ R1.new = R.new ∧ R1.muts = R.muts))
    (m1 : Meets P f ⟨ms, al, run1⟩) (m2 : Meets P f ⟨ms, al, run2⟩) : Meets P f ⟨ms, al, run⟩ := by
  refine ⟨m1.1, fun w vs args owns ss A R hr hp h1 h2 h3 h4 h5 h6 h7 h8 => ?_⟩
  rcases h args owns R hr hp with ⟨R1, hr1, hp1, e1, e2, e3⟩ | ⟨R1, hr1, hp1, e1, e2, e3⟩
  · have := m1.2 w vs args owns ss A R1 hr1 hp1 h1 h2 h3 h4 h5 h6 h7 h8
    rw [e1, e2, e3] at this; exact this
  · have := m2.2 w vs args owns ss A R1 hr1 hp1 h1 h2 h3 h4 h5 h6 h7 h8
    rw [e1, e2, e3] at this; exact this
theorem rng1 : List.range 1 = [0] := rfl
theorem rng2 : List.range 2 = [0, 1] := rfl
theorem rng3 : List.range 3 = [0, 1, 2] := rfl
theorem draws_ok : Try.prog.follows .mixedOrders = true := by kernel_rfl
def noΓ : FuncId → Option Ctr := fun _ => none
/-- The contracts that a walk leans on. -/
def Γof (l : List (Nat × Ctr)) : FuncId → Option Ctr := fun f => look l f
def AllMeet (P : Program) : List (Nat × Ctr) → Prop
  | [] => True
  | (f, C) :: l => Meets P f C ∧ AllMeet P l
theorem hΓof {P : Program} : ∀ {l : List (Nat × Ctr)}, AllMeet P l → ∀ f C, Γof l f = some C → Meets P f C
  | [], _, f, C, h => by cases h
  | (g, D) :: l, h, f, C, he => by
    simp only [Γof, look] at he
    split at he
    · rename_i e; subst e; cases he; exact h.1
    · exact hΓof h.2 f C he
end Go.Proofs.Ytehhmjnjogckeaa
