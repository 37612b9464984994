/- The core of the method, helpers for walks. No condition. -/
import Derived.Test.YtpiaeckkjdcifaaCoreQ
import Derived.Test.YtpiaeckkjdcifaaTypes
namespace Go.Proofs.Ytpiaeckkjdcifaa
set_option linter.unusedVariables false
set_option linter.unusedSimpArgs false
open Go

def memb (k : Nat) : List Nat → Bool
  | [] => false
  | a :: l => if k = a then true else memb k l
def keepL {α : Type} (ks : List Nat) : List (Nat × α) → List (Nat × α)
  | [] => []
  | (k, v) :: l => if memb k ks = true then (k, v) :: keepL ks l else keepL ks l
theorem memb_contains (k : Nat) : ∀ l : List Nat, l.contains k = memb k l
  | [] => rfl
  | a :: l => by
    rw [List.contains_cons, memb_contains k l, memb]
    by_cases h : k = a
    · subst h; simp
    · simp [h]
theorem keepS_eq (ks : List Nat) (s : AState) : keepS ks s = { s with fr := keepL ks s.fr } := by
  have : ∀ l : List (Nat × AV), l.filter (fun p => ks.contains p.1) = keepL ks l := by
    intro l
    induction l with
    | nil => rfl
    | cons p l ih => rw [List.filter_cons, ih]; simp only [keepL, memb_contains]
  simp only [keepS, this]

/-- A function that hands back no new thing and is lent none. -/
theorem ret0 {fn : Func} {C : Ctr} {pre : Prop} {r : AV} {st : AState} (h : resAV tyT st fn.results.toList = some r) (hb : boundV 0 r = true) (hm : mIdx 0 C.modes = []) (hr : C.al = true ∨ noRo r = true) (hren : renV (fun i => ([] : List Nat).getD i 0) r = r) : ∃ rs, RetOK tyT fn C ⟨pre, r, [], []⟩ rs st :=
  ⟨[], { res := by rw [h]; exact congrArg some hren.symm, bnd := hb, len := rfl, nodup := List.nodup_nil, fresh := (by simp), news := (by simp), mlen := (by rw [hm]; rfl), muts := (by simp), ro := hr.imp id fun h => ⟨h, rfl, rfl⟩ }⟩
/-- One new thing, no lent. -/
theorem ret1 {fn : Func} {C : Ctr} {pre : Prop} {r : AV} {o : Own} {st : AState} (k : Nat) (h : resAV tyT st fn.results.toList = some (renV (fun _ => k) r)) (hb : boundV 1 r = true) (hm : mIdx 0 C.modes = []) (ho : applyUps st.H noH k = some o) (hr : C.al = true ∨ (noRo r = true ∧ noRoO o = true)) (hren : renV (fun i => [k].getD i 0) r = renV (fun _ => k) r) : ∃ rs, RetOK tyT fn C ⟨pre, r, [o], []⟩ rs st :=
  ⟨[k], { res := by rw [h]; exact congrArg some hren.symm, bnd := hb, len := rfl, nodup := (by simp), fresh := (by rw [hm]; simp), news := (fun i hi => match i, (by simpa using hi : i = 0) with | _, rfl => by simpa using ho), mlen := (by rw [hm]; rfl), muts := (by simp), ro := hr.imp id fun h => ⟨h.1, by simp [h.2], rfl⟩ }⟩
/-- One lent thing, no new. -/
theorem retm {fn : Func} {C : Ctr} {pre : Prop} {r : AV} {o : Own} {st : AState} (k : Nat) (h : resAV tyT st fn.results.toList = some r) (hb : boundV 0 r = true) (hm : mIdx 0 C.modes = [k]) (ho : applyUps st.H noH k = some o) (hr : C.al = true ∨ (noRo r = true ∧ noRoO o = true)) (hren : renV (fun i => ([] : List Nat).getD i 0) r = r) : ∃ rs, RetOK tyT fn C ⟨pre, r, [], [o]⟩ rs st :=
  ⟨[], { res := by rw [h]; exact congrArg some hren.symm, bnd := hb, len := rfl, nodup := List.nodup_nil, fresh := (by simp), news := (by simp), mlen := (by rw [hm]; rfl), muts := (fun i hi => match i, (by simpa using hi : i = 0) with | _, rfl => by rw [hm]; simpa using ho), ro := hr.imp id fun h => ⟨h.1, rfl, by simp [h.2]⟩ }⟩
/-- One lent thing, one new. -/
theorem retmn {fn : Func} {C : Ctr} {pre : Prop} {r : AV} {o m : Own} {st : AState} (k j : Nat) (h : resAV tyT st fn.results.toList = some (renV (fun _ => j) r)) (hb : boundV 1 r = true) (hm : mIdx 0 C.modes = [k]) (hne : j ≠ k) (hk : applyUps st.H noH k = some m) (hj : applyUps st.H noH j = some o) (hr : C.al = true ∨ (noRo r = true ∧ noRoO o = true ∧ noRoO m = true)) (hren : renV (fun i => [j].getD i 0) r = renV (fun _ => j) r) : ∃ rs, RetOK tyT fn C ⟨pre, r, [o], [m]⟩ rs st :=
  ⟨[j], { res := by rw [h]; exact congrArg some hren.symm, bnd := hb, len := rfl, nodup := (by simp), fresh := (by rw [hm]; simpa using hne), news := (fun i hi => match i, (by simpa using hi : i = 0) with | _, rfl => by simpa using hj), mlen := (by rw [hm]; rfl), muts := (fun i hi => match i, (by simpa using hi : i = 0) with | _, rfl => by rw [hm]; simpa using hk), ro := hr.imp id fun h => ⟨h.1, by simp [h.2.1], by simp [h.2.2]⟩ }⟩
theorem ret0b {fn : Func} {C : Ctr} {pre : Prop} {x y : Bool} {st : AState} (h : resAV tyT st fn.results.toList = some (.bool x)) (hm : mIdx 0 C.modes = []) (e : x = y) : ∃ rs, RetOK tyT fn C ⟨pre, .bool y, [], []⟩ rs st := by
  subst e; exact ret0 h rfl hm (.inr rfl) rfl
theorem ret0i {fn : Func} {C : Ctr} {pre : Prop} {x y : Int} {st : AState} (h : resAV tyT st fn.results.toList = some (.int x)) (hm : mIdx 0 C.modes = []) (e : x = y) : ∃ rs, RetOK tyT fn C ⟨pre, .int y, [], []⟩ rs st := by
  subst e; exact ret0 h rfl hm (.inr rfl) rfl
theorem ret1s {fn : Func} {C : Ctr} {pre : Prop} {e : TypeId} {τ : FT} {xs ys : List τ.T} {st : AState} (k : Nat) (h : resAV tyT st fn.results.toList = some (.sl k)) (hm : mIdx 0 C.modes = []) (ho : applyUps st.H noH k = some (.sl e τ xs)) (e' : xs = ys) : ∃ rs, RetOK tyT fn C ⟨pre, .sl 0, [.sl e τ ys], []⟩ rs st := by
  subst e'; exact ret1 k h rfl hm ho (.inr ⟨rfl, rfl⟩) rfl
theorem ret1sb {fn : Func} {C : Ctr} {pre : Prop} {e : TypeId} {τ : FT} {xs ys : List τ.T} {x y : Bool} {st : AState} (k : Nat) (h : resAV tyT st fn.results.toList = some (.tup [.sl k, .bool x])) (hm : mIdx 0 C.modes = []) (ho : applyUps st.H noH k = some (.sl e τ xs)) (e' : xs = ys) (e2 : x = y) : ∃ rs, RetOK tyT fn C ⟨pre, .tup [.sl 0, .bool y], [.sl e τ ys], []⟩ rs st := by
  subst e'; subst e2; exact ret1 k h rfl hm ho (.inr ⟨rfl, rfl⟩) rfl
theorem ret1si {fn : Func} {C : Ctr} {pre : Prop} {e : TypeId} {τ : FT} {xs ys : List τ.T} {x y : Int} {st : AState} (k : Nat) (h : resAV tyT st fn.results.toList = some (.tup [.sl k, .int x])) (hm : mIdx 0 C.modes = []) (ho : applyUps st.H noH k = some (.sl e τ xs)) (e' : xs = ys) (e2 : x = y) : ∃ rs, RetOK tyT fn C ⟨pre, .tup [.sl 0, .int y], [.sl e τ ys], []⟩ rs st := by
  subst e'; subst e2; exact ret1 k h rfl hm ho (.inr ⟨rfl, rfl⟩) rfl
def ownI (e : TypeId) : Option Own → Option (List Int)
  | some (.sl e' .i64 xs) => if e' = e then some xs else none
  | _ => none
def anyI : Option Own → Option (List Int)
  | some (.sl _ .i64 xs) => some xs
  | _ => none
def srcI (H : Nat → Option Own) : AV → Option (List Int)
  | .rs .i64 xs => some xs
  | .nils => some []
  | .sl r => anyI (H r)
  | _ => none
def sameR : AV → Nat → Bool
  | .sl r', r => decide (r' = r)
  | _, _ => false
def appI (H : Nat → Option Own) (nx : Nat) (e : TypeId) (x y : AV) : Option Eff :=
  match srcI H y with
  | none => none
  | some ys => match x with
    | .nils => some ⟨.sl nx, [(nx, some (.sl e .i64 ys))], 1, ys.length ≤ room⟩
    | .sl r => (match ownI e (H r) with
      | some xs => if sameR y r = true then none else some ⟨.sl nx, [(nx, some (.sl e .i64 (xs ++ ys))), (r, none)], 1, xs.length + ys.length ≤ room⟩
      | none => none)
    | _ => none
theorem srcI_eq (H : Nat → Option Own) (y : AV) : srcFlat H .i64 y = srcI H y := by
  cases y with
  | rs τ xs => cases τ <;> simp [srcFlat, srcI]
  | sl r =>
    simp only [srcFlat, srcI]
    cases H r with
    | none => rfl
    | some o =>
      cases o with
      | sl e τ xs => cases τ <;> simp [anyI]
      | _ => rfl
  | _ => rfl
theorem appAV_I (H : Nat → Option Own) (nx : Nat) (z : Value) (s b : Nat) (e : TypeId) (x y : AV) : appAV H nx ⟨z, s, b, .sl e .i64⟩ x y = appI H nx e x y := by
  simp only [appAV, appI, srcI_eq]
  cases srcI H y with
  | none => rfl
  | some ys =>
    cases x with
    | sl r =>
      simp only []
      cases H r with
      | none => rfl
      | some o =>
        cases o with
        | sl e' τ xs =>
          cases τ <;> by_cases he : e' = e <;> simp [ownI, he]
          all_goals (cases y <;> simp [sameR])
        | _ => rfl
    | _ => rfl
def ownP (e : TypeId) : Option Own → Option (List PairD)
  | some (.sl e' .pair xs) => if e' = e then some xs else none
  | _ => none
def anyP : Option Own → Option (List PairD)
  | some (.sl _ .pair xs) => some xs
  | _ => none
def srcP (H : Nat → Option Own) : AV → Option (List PairD)
  | .rs .pair xs => some xs
  | .nils => some []
  | .sl r => anyP (H r)
  | _ => none
def appP (H : Nat → Option Own) (nx : Nat) (e : TypeId) (x y : AV) : Option Eff :=
  match srcP H y with
  | none => none
  | some ys => match x with
    | .nils => some ⟨.sl nx, [(nx, some (.sl e .pair ys))], 1, ys.length ≤ room⟩
    | .sl r => (match ownP e (H r) with
      | some xs => if sameR y r = true then none else some ⟨.sl nx, [(nx, some (.sl e .pair (xs ++ ys))), (r, none)], 1, xs.length + ys.length ≤ room⟩
      | none => none)
    | _ => none
theorem srcP_eq (H : Nat → Option Own) (y : AV) : srcFlat H .pair y = srcP H y := by
  cases y with
  | rs τ xs => cases τ <;> simp [srcFlat, srcP]
  | sl r =>
    simp only [srcFlat, srcP]
    cases H r with
    | none => rfl
    | some o =>
      cases o with
      | sl e τ xs => cases τ <;> simp [anyP]
      | _ => rfl
  | _ => rfl
theorem appAV_P (H : Nat → Option Own) (nx : Nat) (z : Value) (s b : Nat) (e : TypeId) (x y : AV) : appAV H nx ⟨z, s, b, .sl e .pair⟩ x y = appP H nx e x y := by
  simp only [appAV, appP, srcP_eq]
  cases srcP H y with
  | none => rfl
  | some ys =>
    cases x with
    | sl r =>
      simp only []
      cases H r with
      | none => rfl
      | some o =>
        cases o with
        | sl e' τ xs =>
          cases τ <;> by_cases he : e' = e <;> simp [ownP, he]
          all_goals (cases y <;> simp [sameR])
        | _ => rfl
    | _ => rfl
theorem rr1 {fn : Func} {C : Ctr} {st : AState} {α1 : Type} {g : α1 → CRes} {p : α1 → Prop} {a1 : α1} (hret : ∃ rs, RetOK tyT fn C (g a1) rs st) (hg : p a1) : ∃ R, (∃ a1, R = g a1 ∧ p a1) ∧ ∃ rs, RetOK tyT fn C R rs st := ⟨_, ⟨a1, rfl, hg⟩, hret⟩
theorem rr2 {fn : Func} {C : Ctr} {st : AState} {α1 : Type} {α2 : Type} {g : α1 → α2 → CRes} {p : α1 → α2 → Prop} {a1 : α1} {a2 : α2} (hret : ∃ rs, RetOK tyT fn C (g a1 a2) rs st) (hg : p a1 a2) : ∃ R, (∃ a1 a2, R = g a1 a2 ∧ p a1 a2) ∧ ∃ rs, RetOK tyT fn C R rs st := ⟨_, ⟨a1, a2, rfl, hg⟩, hret⟩
theorem rr3 {fn : Func} {C : Ctr} {st : AState} {α1 : Type} {α2 : Type} {α3 : Type} {g : α1 → α2 → α3 → CRes} {p : α1 → α2 → α3 → Prop} {a1 : α1} {a2 : α2} {a3 : α3} (hret : ∃ rs, RetOK tyT fn C (g a1 a2 a3) rs st) (hg : p a1 a2 a3) : ∃ R, (∃ a1 a2 a3, R = g a1 a2 a3 ∧ p a1 a2 a3) ∧ ∃ rs, RetOK tyT fn C R rs st := ⟨_, ⟨a1, a2, a3, rfl, hg⟩, hret⟩
theorem rr4 {fn : Func} {C : Ctr} {st : AState} {α1 : Type} {α2 : Type} {α3 : Type} {α4 : Type} {g : α1 → α2 → α3 → α4 → CRes} {p : α1 → α2 → α3 → α4 → Prop} {a1 : α1} {a2 : α2} {a3 : α3} {a4 : α4} (hret : ∃ rs, RetOK tyT fn C (g a1 a2 a3 a4) rs st) (hg : p a1 a2 a3 a4) : ∃ R, (∃ a1 a2 a3 a4, R = g a1 a2 a3 a4 ∧ p a1 a2 a3 a4) ∧ ∃ rs, RetOK tyT fn C R rs st := ⟨_, ⟨a1, a2, a3, a4, rfl, hg⟩, hret⟩
theorem rr5 {fn : Func} {C : Ctr} {st : AState} {α1 : Type} {α2 : Type} {α3 : Type} {α4 : Type} {α5 : Type} {g : α1 → α2 → α3 → α4 → α5 → CRes} {p : α1 → α2 → α3 → α4 → α5 → Prop} {a1 : α1} {a2 : α2} {a3 : α3} {a4 : α4} {a5 : α5} (hret : ∃ rs, RetOK tyT fn C (g a1 a2 a3 a4 a5) rs st) (hg : p a1 a2 a3 a4 a5) : ∃ R, (∃ a1 a2 a3 a4 a5, R = g a1 a2 a3 a4 a5 ∧ p a1 a2 a3 a4 a5) ∧ ∃ rs, RetOK tyT fn C R rs st := ⟨_, ⟨a1, a2, a3, a4, a5, rfl, hg⟩, hret⟩
theorem rr6 {fn : Func} {C : Ctr} {st : AState} {α1 : Type} {α2 : Type} {α3 : Type} {α4 : Type} {α5 : Type} {α6 : Type} {g : α1 → α2 → α3 → α4 → α5 → α6 → CRes} {p : α1 → α2 → α3 → α4 → α5 → α6 → Prop} {a1 : α1} {a2 : α2} {a3 : α3} {a4 : α4} {a5 : α5} {a6 : α6} (hret : ∃ rs, RetOK tyT fn C (g a1 a2 a3 a4 a5 a6) rs st) (hg : p a1 a2 a3 a4 a5 a6) : ∃ R, (∃ a1 a2 a3 a4 a5 a6, R = g a1 a2 a3 a4 a5 a6 ∧ p a1 a2 a3 a4 a5 a6) ∧ ∃ rs, RetOK tyT fn C R rs st := ⟨_, ⟨a1, a2, a3, a4, a5, a6, rfl, hg⟩, hret⟩
/-- Two contracts that share the cases make one. -/
theorem meets_or {P : Program} {f : FuncId} {ms : List Md} {al : Bool} {run run1 run2 : List AV → List Own → Option CRes}
    (h : ∀ xs os R, run xs os = some R → R.pre → (∃ R1, run1 xs os = some R1 ∧ R1.pre ∧ R1.res = R.res ∧ R1.new = R.new ∧ R1.muts = R.muts) ∨ (∃ R1, run2 xs os = some R1 ∧ R1.pre ∧ R1.res = R.res ∧ R1.new = R.new ∧ R1.muts = R.muts))
    (m1 : Meets P f { modes := ms, al := al, run := run1 }) (m2 : Meets P f { modes := ms, al := al, run := run2 }) : Meets P f { modes := ms, al := al, run := run } := by
  refine ⟨m1.1, fun w vs args owns ss A pre S hr hp h1 h2 h3 h4 h5 h6 h7 h8 => ?_, fun rl hrl => by cases hrl⟩
  simp only [runR, Option.map_eq_some_iff, Prod.mk.injEq] at hr
  obtain ⟨R, hr, rfl, rfl⟩ := hr
  rcases h args owns R hr hp with ⟨R1, hr1, hp1, e1, e2, e3⟩ | ⟨R1, hr1, hp1, e1, e2, e3⟩
  · have := m1.2.1 w vs args owns ss A R1.pre (fun R' => R' = R1) (by simp only [runR, hr1, Option.map_some]) hp1 h1 h2 h3 h4 h5 h6 h7 h8
    refine Calls.mono this ?_
    rintro e w' ⟨_, rfl, hh⟩
    rw [e1, e2, e3] at hh; exact ⟨R, rfl, hh⟩
  · have := m2.2.1 w vs args owns ss A R1.pre (fun R' => R' = R1) (by simp only [runR, hr1, Option.map_some]) hp1 h1 h2 h3 h4 h5 h6 h7 h8
    refine Calls.mono this ?_
    rintro e w' ⟨_, rfl, hh⟩
    rw [e1, e2, e3] at hh; exact ⟨R, rfl, hh⟩
theorem rng1 : List.range 1 = [0] := rfl
theorem rng2 : List.range 2 = [0, 1] := rfl
theorem rng3 : List.range 3 = [0, 1, 2] := rfl
theorem draws_ok : Try.prog.follows .mixedOrders = true := by kernel_rfl
def noΓ : FuncId → Option Ctr := fun _ => none
/-- The contracts that a walk leans on. -/
def Γof (l : List (Nat × Ctr)) : FuncId → Option Ctr := fun f => look l f
def AllMeet (P : Program) : List (Nat × Ctr) → Prop
  | [] => True
  | (f, C) :: l => Meets P f C ∧ AllMeet P l
theorem hΓof {P : Program} : ∀ {l : List (Nat × Ctr)}, AllMeet P l → ∀ f C, Γof l f = some C → Meets P f C
  | [], _, f, C, h => by cases h
  | (g, D) :: l, h, f, C, he => by
    simp only [Γof, look] at he
    split at he
    · rename_i e; subst e; cases he; exact h.1
    · exact hΓof h.2 f C he
set_option linter.defProp false
/-- The equations that a walk leans on, as one. -/
def baseS := And.intro (And.intro (And.intro (And.intro (And.intro (And.intro (And.intro (And.intro (@eq_self.{1}) (@rng1)) (And.intro (@rng2) (@rng3))) (And.intro (And.intro (@List.zip_nil_right.{0,0}) (@List.nodup_cons.{0})) (And.intro (@List.not_mem_nil.{0}) (And.intro (@not_false_eq_true) (@List.contains_cons.{0}))))) (And.intro (And.intro (And.intro (@Bool.or_false) (@Bool.false_and)) (And.intro (@Bool.and_false) (And.intro (@List.isEmpty_nil.{0}) (@List.append_nil.{0})))) (And.intro (And.intro (@Array.toList_append.{0}) (@List.toList_toArray.{0})) (And.intro (@imp_self) (And.intro (@Bool.cond_false_right) (@Bool.cond_true_left)))))) (And.intro (And.intro (And.intro (And.intro (@keepS_eq) (@if_true.{1})) (And.intro (@if_false.{1}) (@decide_true))) (And.intro (And.intro (@true_and) (@and_true)) (And.intro (@List.nil_append.{0}) (And.intro (@List.cons_append.{0}) (@Nat.add_zero))))) (And.intro (And.intro (And.intro (@Bool.false_eq_true) (@List.getElem?_cons_zero.{0})) (And.intro (@List.getElem?_cons_succ.{0}) (And.intro (@List.isEmpty_nil.{0}) (@implies_true.{1})))) (And.intro (And.intro (@List.contains_nil.{0}) (@List.all_cons.{0})) (And.intro (@List.all_nil.{0}) (And.intro (@Bool.and_true) (@Bool.true_and))))))) (And.intro (And.intro (And.intro (And.intro (And.intro (@List.length_cons.{0}) (@List.length_nil.{0})) (And.intro (@List.map_nil.{0,0}) (@List.map_cons.{0,0}))) (And.intro (And.intro (@List.zip_nil_left.{0,0}) (@List.zip_cons_cons.{0,0})) (And.intro (@List.range_zero) (And.intro (@List.nodup_nil.{0}) (@Bool.or_true))))) (And.intro (And.intro (And.intro (@Bool.true_or) (@Bool.not_false)) (And.intro (@Bool.not_true) (And.intro (@Bool.false_or) (@List.isEmpty_cons.{0})))) (And.intro (And.intro (@and_self) (@Nat.lt_add_one)) (And.intro (@Nat.zero_lt_succ) (And.intro (@gt_iff_lt.{0}) (@flagB.eq_1)))))) (And.intro (And.intro (And.intro (And.intro (@flagB.eq_2) (@isPick.eq_1)) (And.intro (@isPick.eq_2) (@Option.all.eq_1.{0}))) (And.intro (And.intro (@Option.all.eq_2.{0}) (@Option.isSome.eq_1.{0})) (And.intro (@Option.isSome.eq_2.{0}) (And.intro (@sliceAV.eq_1) (@sliceAV.eq_2))))) (And.intro (And.intro (And.intro (@sliceAV.eq_3) (@sliceAV.eq_4)) (And.intro (@sliceAV.eq_5) (And.intro (@sliceAV.eq_6) (@sliceAV.eq_7)))) (And.intro (And.intro (@sliceAV.eq_8) (@sliceAV.eq_9)) (And.intro (@sliceAV.eq_10) (And.intro (@sliceAV.eq_11) (@sliceAV.eq_12)))))))) (And.intro (And.intro (And.intro (And.intro (And.intro (And.intro (@Option.toArray.eq_1.{0}) (@Option.toArray.eq_2.{0})) (And.intro (@Go.Call.operands.eq_1) (@opsW.eq_1))) (And.intro (And.intro (@opsW.eq_2) (@opsD.eq_1)) (And.intro (@opsD.eq_2) (And.intro (@stepG.eq_1) (@stepG0.eq_1))))) (And.intro (And.intro (And.intro (@fzE.eq_1) (@nilCmp.eq_1)) (And.intro (@nilC.eq_1) (And.intro (@nilC.eq_2) (@nilC.eq_3)))) (And.intro (And.intro (@nilC.eq_4) (@isNilC.eq_1)) (And.intro (@isNilC.eq_2) (And.intro (@nb.eq_1) (@nb.eq_2)))))) (And.intro (And.intro (And.intro (And.intro (@stepOp.eq_1) (@evA.eq_1)) (And.intro (@evA.eq_2) (@evA.eq_3))) (And.intro (And.intro (@evA.eq_4) (@ofVal.eq_1)) (And.intro (@ofVal.eq_2) (And.intro (@ofVal.eq_3) (@ofVal.eq_4))))) (And.intro (And.intro (And.intro (@ofVal.eq_5) (@look.eq_1)) (And.intro (@look.eq_2) (And.intro (@Option.map.eq_1.{0,0}) (@Option.map.eq_2.{0,0})))) (And.intro (And.intro (@Option.bind.eq_1.{0,0}) (@Option.bind.eq_2.{0,0})) (And.intro (@dstOK.eq_1) (And.intro (@dstOK.eq_2) (@thenQ.eq_1))))))) (And.intro (And.intro (And.intro (And.intro (And.intro (@thenQ.eq_2) (@keepL.eq_1)) (And.intro (@keepL.eq_2) (@memb.eq_1))) (And.intro (And.intro (@memb.eq_2) (@AState.app.eq_1)) (And.intro (@AState.app.eq_2) (And.intro (@guardP.eq_1) (@binAV.eq_1))))) (And.intro (And.intro (And.intro (@binAV.eq_2) (@binAV.eq_3)) (And.intro (@binAV.eq_4) (And.intro (@binAV.eq_5) (@binAV.eq_6)))) (And.intro (And.intro (@binAV.eq_7) (@binAV.eq_8)) (And.intro (@binAV.eq_9) (And.intro (@binAV.eq_10) (@binAV.eq_11)))))) (And.intro (And.intro (And.intro (And.intro (@binAV.eq_12) (@binAV.eq_13)) (And.intro (@binAV.eq_14) (@binAV.eq_15))) (And.intro (And.intro (@binAV.eq_16) (@binAV.eq_17)) (And.intro (@binAV.eq_18) (And.intro (@binAV.eq_19) (@binAV.eq_20))))) (And.intro (And.intro (And.intro (@binAV.eq_21) (@opQ.eq_1)) (And.intro (@opQ.eq_2) (And.intro (@stripV.eq_1) (@stripV.eq_2)))) (And.intro (And.intro (@stripP.eq_1) (@stripP.eq_2)) (And.intro (@pickAV.eq_1) (And.intro (@Go.Op.operands.eq_1) (@Go.Op.operands.eq_2))))))))) (And.intro (And.intro (And.intro (And.intro (And.intro (And.intro (And.intro (@Go.Op.operands.eq_3) (@Go.Op.operands.eq_4)) (And.intro (@Go.Op.operands.eq_5) (@Go.Op.operands.eq_6))) (And.intro (And.intro (@Go.Op.operands.eq_7) (@Go.Op.operands.eq_8)) (And.intro (@Go.Op.operands.eq_9) (And.intro (@Go.Op.operands.eq_10) (@Go.Op.operands.eq_11))))) (And.intro (And.intro (And.intro (@Go.Op.operands.eq_12) (@Go.Op.operands.eq_13)) (And.intro (@Go.Op.operands.eq_14) (And.intro (@Go.Op.operands.eq_15) (@Go.Op.operands.eq_16)))) (And.intro (And.intro (@Go.Op.operands.eq_17) (@Go.Op.operands.eq_18)) (And.intro (@Go.Op.operands.eq_19) (And.intro (@Go.Op.operands.eq_20) (@Go.Op.operands.eq_21)))))) (And.intro (And.intro (And.intro (And.intro (@Go.Op.operands.eq_22) (@Go.Op.operands.eq_23)) (And.intro (@Go.Op.operands.eq_24) (@Go.Op.operands.eq_25))) (And.intro (And.intro (@Go.Op.operands.eq_26) (@Go.Op.operands.eq_27)) (And.intro (@Go.Op.operands.eq_28) (And.intro (@Go.Op.operands.eq_29) (@Go.Op.operands.eq_30))))) (And.intro (And.intro (And.intro (@Go.Op.operands.eq_31) (@Go.Op.operands.eq_32)) (And.intro (@Go.Op.operands.eq_33) (And.intro (@Go.Op.operands.eq_34) (@Go.Op.operands.eq_35)))) (And.intro (And.intro (@Go.Op.operands.eq_36) (@Go.Op.operands.eq_37)) (And.intro (@Go.Op.operands.eq_38) (And.intro (@Go.Op.operands.eq_39) (@Go.Op.operands.eq_40))))))) (And.intro (And.intro (And.intro (And.intro (And.intro (@Go.Op.operands.eq_41) (@Go.Op.operands.eq_42)) (And.intro (@Go.Op.operands.eq_43) (@loadAV.eq_1))) (And.intro (And.intro (@loadAV.eq_2) (@loadAV.eq_3)) (And.intro (@loadAV.eq_4) (And.intro (@loadAV.eq_5) (@idxAV.eq_1))))) (And.intro (And.intro (And.intro (@idxAV.eq_2) (@idxAV.eq_3)) (And.intro (@idxAV.eq_4) (And.intro (@lenAV.eq_1) (@lenAV.eq_2)))) (And.intro (And.intro (@lenAV.eq_3) (@lenAV.eq_4)) (And.intro (@lenAV.eq_5) (And.intro (@isStr.eq_1) (@FT.avs.eq_1)))))) (And.intro (And.intro (And.intro (And.intro (@FT.avs.eq_2) (@FT.avs.eq_3)) (And.intro (@FT.avs.eq_4) (@FT.size.eq_1))) (And.intro (And.intro (@FT.size.eq_2) (@FT.size.eq_3)) (And.intro (@FT.size.eq_4) (And.intro (@FT.dflt.eq_1) (@FT.dflt.eq_2))))) (And.intro (And.intro (And.intro (@FT.dflt.eq_3) (@FT.dflt.eq_4)) (And.intro (@applyUps.eq_1) (And.intro (@noH.eq_1) (@cellsAV.eq_1)))) (And.intro (And.intro (@cellsAV.eq_2) (@cell1.eq_1)) (And.intro (@cell1.eq_2) (And.intro (@cell1.eq_3) (@cell1.eq_4)))))))) (And.intro (And.intro (And.intro (And.intro (And.intro (And.intro (@cell1.eq_5) (@cell1.eq_6)) (And.intro (@cell1.eq_7) (@cell1.eq_8))) (And.intro (And.intro (@cell1.eq_9) (@cell1.eq_10)) (And.intro (@cleanV.eq_1) (And.intro (@cleanV.eq_2) (@cleanV.eq_3))))) (And.intro (And.intro (And.intro (@cleanV.eq_4) (@cleanV.eq_5)) (And.intro (@cleanV.eq_6) (And.intro (@cleanV.eq_7) (@cleanV.eq_8)))) (And.intro (And.intro (@cleanV.eq_9) (@cleanV.eq_10)) (And.intro (@cleanV.eq_11) (And.intro (@cleanV.eq_12) (@cleanV.eq_13)))))) (And.intro (And.intro (And.intro (And.intro (@cleanV.eq_14) (@cleanV.eq_15)) (And.intro (@cleanV.eq_16) (@cleanL.eq_1))) (And.intro (And.intro (@cleanL.eq_2) (@cleanO.eq_1)) (And.intro (@cleanO.eq_2) (And.intro (@ownBox.eq_1) (@ownBox.eq_2))))) (And.intro (And.intro (And.intro (@evL.eq_1) (@evL.eq_2)) (And.intro (@conv.eq_1) (And.intro (@conv.eq_2) (@conv.eq_3)))) (And.intro (And.intro (@conv.eq_4) (@conv.eq_5)) (And.intro (@conv.eq_6) (And.intro (@conv.eq_7) (@conv.eq_8))))))) (And.intro (And.intro (And.intro (And.intro (And.intro (@conv.eq_9) (@conv.eq_10)) (And.intro (@conv.eq_11) (@conv.eq_12))) (And.intro (And.intro (@conv.eq_13) (@conv.eq_14)) (And.intro (@callOK.eq_1) (And.intro (@boundV.eq_1) (@boundV.eq_2))))) (And.intro (And.intro (And.intro (@boundV.eq_3) (@boundV.eq_4)) (And.intro (@boundV.eq_5) (And.intro (@boundV.eq_6) (@boundV.eq_7)))) (And.intro (And.intro (@boundV.eq_8) (@boundV.eq_9)) (And.intro (@boundV.eq_10) (And.intro (@boundV.eq_11) (@boundV.eq_12)))))) (And.intro (And.intro (And.intro (And.intro (@boundV.eq_13) (@boundV.eq_14)) (And.intro (@boundV.eq_15) (@boundV.eq_16))) (And.intro (And.intro (@boundL.eq_1) (@boundL.eq_2)) (And.intro (@flatO.eq_1) (And.intro (@flatO.eq_2) (@flatO.eq_3))))) (And.intro (And.intro (And.intro (@renV.eq_1) (@renV.eq_2)) (And.intro (@renV.eq_3) (And.intro (@renV.eq_4) (@renV.eq_5)))) (And.intro (And.intro (@renV.eq_6) (@renV.eq_7)) (And.intro (@renL.eq_1) (And.intro (@renL.eq_2) (@Γof.eq_1)))))))))
end Go.Proofs.Ytpiaeckkjdcifaa
