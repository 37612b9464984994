/- The core of the method, helpers for walks. No condition. -/
import Derived.Test.YtaheekbmfgcecaaCoreQ
import Derived.Test.YtaheekbmfgcecaaTypes
namespace Go.Proofs.Ytaheekbmfgcecaa
set_option linter.unusedVariables false
set_option linter.unusedSimpArgs false
open Go

def memb (k : Nat) : List Nat → Bool
  | [] => false
  | a :: l => if k = a then true else memb k l
def keepL {α : Type} (ks : List Nat) : List (Nat × α) → List (Nat × α)
  | [] => []
  | (k, v) :: l => if memb k ks = true then (k, v) :: keepL ks l else keepL ks l
theorem memb_contains (k : Nat) : ∀ l : List Nat, l.contains k = memb k l
  | [] => rfl
  | a :: l => by
    rw [List.contains_cons, memb_contains k l, memb]
    by_cases h : k = a
    · subst h; simp
    · simp [h]
theorem keepS_eq (ks : List Nat) (s : AState) : keepS ks s = { s with fr := keepL ks s.fr } := by
  have : ∀ l : List (Nat × AV), l.filter (fun p => ks.contains p.1) = keepL ks l := by
    intro l
    induction l with
    | nil => rfl
    | cons p l ih => rw [List.filter_cons, ih]; simp only [keepL, memb_contains]
  simp only [keepS, this]

/-- A function that hands back no new thing and is lent none. -/
theorem ret0 {fn : Func} {C : Ctr} {pre : Prop} {r : AV} {st : AState} (h : resAV tyT st fn.results.toList = some r) (hb : boundV 0 r = true) (hm : mIdx 0 C.modes = []) (hr : C.al = true ∨ noRo r = true) (hren : renV (fun i => ([] : List Nat).getD i 0) r = r) : ∃ rs, RetOK tyT fn C ⟨pre, r, [], []⟩ rs st :=
  ⟨[], { res := by rw [h]; exact congrArg some hren.symm, bnd := hb, len := rfl, nodup := List.nodup_nil, fresh := (by simp), news := (by simp), mlen := (by rw [hm]; rfl), muts := (by simp), ro := hr.imp id fun h => ⟨h, rfl, rfl⟩ }⟩
/-- One new thing, no lent. -/
theorem ret1 {fn : Func} {C : Ctr} {pre : Prop} {r : AV} {o : Own} {st : AState} (k : Nat) (h : resAV tyT st fn.results.toList = some (renV (fun _ => k) r)) (hb : boundV 1 r = true) (hm : mIdx 0 C.modes = []) (ho : applyUps st.H noH k = some o) (hr : C.al = true ∨ (noRo r = true ∧ noRoO o = true)) (hren : renV (fun i => [k].getD i 0) r = renV (fun _ => k) r) : ∃ rs, RetOK tyT fn C ⟨pre, r, [o], []⟩ rs st :=
  ⟨[k], { res := by rw [h]; exact congrArg some hren.symm, bnd := hb, len := rfl, nodup := (by simp), fresh := (by rw [hm]; simp), news := (fun i hi => match i, (by simpa using hi : i = 0) with | _, rfl => by simpa using ho), mlen := (by rw [hm]; rfl), muts := (by simp), ro := hr.imp id fun h => ⟨h.1, by simp [h.2], rfl⟩ }⟩
/-- One lent thing, no new. -/
theorem retm {fn : Func} {C : Ctr} {pre : Prop} {r : AV} {o : Own} {st : AState} (k : Nat) (h : resAV tyT st fn.results.toList = some r) (hb : boundV 0 r = true) (hm : mIdx 0 C.modes = [k]) (ho : applyUps st.H noH k = some o) (hr : C.al = true ∨ (noRo r = true ∧ noRoO o = true)) (hren : renV (fun i => ([] : List Nat).getD i 0) r = r) : ∃ rs, RetOK tyT fn C ⟨pre, r, [], [o]⟩ rs st :=
  ⟨[], { res := by rw [h]; exact congrArg some hren.symm, bnd := hb, len := rfl, nodup := List.nodup_nil, fresh := (by simp), news := (by simp), mlen := (by rw [hm]; rfl), muts := (fun i hi => match i, (by simpa using hi : i = 0) with | _, rfl => by rw [hm]; simpa using ho), ro := hr.imp id fun h => ⟨h.1, rfl, by simp [h.2]⟩ }⟩
theorem ret0b {fn : Func} {C : Ctr} {pre : Prop} {x y : Bool} {st : AState} (h : resAV tyT st fn.results.toList = some (.bool x)) (hm : mIdx 0 C.modes = []) (e : x = y) : ∃ rs, RetOK tyT fn C ⟨pre, .bool y, [], []⟩ rs st := by
  subst e; exact ret0 h rfl hm (.inr rfl) rfl
theorem ret0i {fn : Func} {C : Ctr} {pre : Prop} {x y : Int} {st : AState} (h : resAV tyT st fn.results.toList = some (.int x)) (hm : mIdx 0 C.modes = []) (e : x = y) : ∃ rs, RetOK tyT fn C ⟨pre, .int y, [], []⟩ rs st := by
  subst e; exact ret0 h rfl hm (.inr rfl) rfl
theorem ret1s {fn : Func} {C : Ctr} {pre : Prop} {e : TypeId} {τ : FT} {xs ys : List τ.T} {st : AState} (k : Nat) (h : resAV tyT st fn.results.toList = some (.sl k)) (hm : mIdx 0 C.modes = []) (ho : applyUps st.H noH k = some (.sl e τ xs)) (e' : xs = ys) : ∃ rs, RetOK tyT fn C ⟨pre, .sl 0, [.sl e τ ys], []⟩ rs st := by
  subst e'; exact ret1 k h rfl hm ho (.inr ⟨rfl, rfl⟩) rfl
theorem ret1sb {fn : Func} {C : Ctr} {pre : Prop} {e : TypeId} {τ : FT} {xs ys : List τ.T} {x y : Bool} {st : AState} (k : Nat) (h : resAV tyT st fn.results.toList = some (.tup [.sl k, .bool x])) (hm : mIdx 0 C.modes = []) (ho : applyUps st.H noH k = some (.sl e τ xs)) (e' : xs = ys) (e2 : x = y) : ∃ rs, RetOK tyT fn C ⟨pre, .tup [.sl 0, .bool y], [.sl e τ ys], []⟩ rs st := by
  subst e'; subst e2; exact ret1 k h rfl hm ho (.inr ⟨rfl, rfl⟩) rfl
theorem ret1si {fn : Func} {C : Ctr} {pre : Prop} {e : TypeId} {τ : FT} {xs ys : List τ.T} {x y : Int} {st : AState} (k : Nat) (h : resAV tyT st fn.results.toList = some (.tup [.sl k, .int x])) (hm : mIdx 0 C.modes = []) (ho : applyUps st.H noH k = some (.sl e τ xs)) (e' : xs = ys) (e2 : x = y) : ∃ rs, RetOK tyT fn C ⟨pre, .tup [.sl 0, .int y], [.sl e τ ys], []⟩ rs st := by
  subst e'; subst e2; exact ret1 k h rfl hm ho (.inr ⟨rfl, rfl⟩) rfl
theorem rng1 : List.range 1 = [0] := rfl
theorem rng2 : List.range 2 = [0, 1] := rfl
theorem rng3 : List.range 3 = [0, 1, 2] := rfl
theorem draws_ok : Try.prog.follows .mixedOrders = true := by kernel_rfl
def noΓ : FuncId → Option Ctr := fun _ => none
/-- The contracts that a walk leans on. -/
def Γof (l : List (Nat × Ctr)) : FuncId → Option Ctr := fun f => look l f
def AllMeet (P : Program) : List (Nat × Ctr) → Prop
  | [] => True
  | (f, C) :: l => Meets P f C ∧ AllMeet P l
theorem hΓof {P : Program} : ∀ {l : List (Nat × Ctr)}, AllMeet P l → ∀ f C, Γof l f = some C → Meets P f C
  | [], _, f, C, h => by cases h
  | (g, D) :: l, h, f, C, he => by
    simp only [Γof, look] at he
    split at he
    · rename_i e; subst e; cases he; exact h.1
    · exact hΓof h.2 f C he
end Go.Proofs.Ytaheekbmfgcecaa
