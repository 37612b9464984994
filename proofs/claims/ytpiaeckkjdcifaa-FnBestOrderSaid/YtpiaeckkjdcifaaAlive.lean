/- laws.alive returns true and leaves the world as it is: the kernel runs it. No condition. -/
import Derived.Test.YtpiaeckkjdcifaaWalk
import Derived.Calls
import Derived.KernelRfl
namespace Go.Proofs.Ytpiaeckkjdcifaa
set_option linter.unusedVariables false
set_option linter.unusedSimpArgs false
open Go
def atEnd (f : FuncId) (m : Machine) : Bool := match m.gs[0]? with
  | some g => g.frame.fn == f && (match g.frame.mode with | .returning => true | _ => false)
  | none => false
def toEnd (P : Program) (f : FuncId) : Nat → Machine → Option Machine
  | 0, _ => none
  | n + 1, m => bif atEnd f m then some m else match step P m with
    | .next m => toEnd P f n m
    | _ => none
theorem toEnd_steps (P : Program) (f : FuncId) : ∀ (n : Nat) (m m' : Machine), toEnd P f n m = some m' → Steps P m m'
  | 0, _, _, h => by cases h
  | n + 1, m, m', h => by
    unfold toEnd at h
    cases ha : atEnd f m with
    | true => rw [ha] at h; cases h; exact ⟨0, rfl⟩
    | false =>
      rw [ha] at h
      simp only [cond_false] at h
      split at h
      · rename_i m1 h1
        obtain ⟨k, hk⟩ := toEnd_steps P f n m1 m' h
        exact ⟨k + 1, by rw [runN, h1]; exact hk⟩
      · cases h
def clearG (g : Goroutine) : Goroutine := { g with frame := { g.frame with todo := [] } }
def clearM (m : Machine) : Machine := { m with gs := m.gs.map clearG }
theorem clear_lone {m : Machine} {fr : Frame} {cs : List Frame} {w : World} (h : clearM m = lone { fr with todo := [] } cs w) : ∃ td, m = lone { fr with todo := td } cs w := by
  obtain ⟨mw, gs, rest⟩ := m
  simp only [clearM, lone, Machine.mk.injEq] at h
  obtain ⟨rfl, hg, rfl⟩ := h
  have hl : gs.toList.map clearG = [{ frame := { fr with todo := [] }, callers := cs, status := .running, dying := none }] := by
    rw [← Array.toList_map, hg]
  match hgl : gs.toList, hl with
  | [g], hl =>
    simp only [List.map_cons, List.map_nil, List.cons.injEq, and_true] at hl
    obtain ⟨gf, gc, gst, gd, go⟩ := g
    obtain ⟨a, b, td, d, e, k, r⟩ := gf
    obtain ⟨a', b', td', d', e', k', r'⟩ := fr
    simp only [clearG, Goroutine.mk.injEq, Frame.mk.injEq] at hl
    obtain ⟨⟨rfl, rfl, _, rfl, rfl, rfl, rfl⟩, rfl, rfl, rfl, rfl⟩ := hl
    refine ⟨td, ?_⟩
    rw [← Array.toArray_toList (xs := gs), hgl]; rfl
  | [], hl => simp at hl
  | _ :: _ :: _, hl => simp at hl
theorem alive_end (w : World) (cs : List Frame) : (toEnd Try.prog 17 4000 (lone (Frame.enter Try.prog 17 #[] .normal) cs w)).map clearM =
    some (lone { fn := 17, tmps := #[.bool true, .int .i64 3, .bool true, .bool true, .int .i64 (-1), .bool true, .bool true], todo := [], defers := [], mode := .returning, kind := .normal } cs w) := by kernel_rfl
theorem alive_calls (w : World) : Calls Try.prog 17 #[] w fun e w' => e = .returned (.bool true) ∧ w' = w := fun cs => by
  have h := alive_end w cs
  rw [Option.map_eq_some_iff] at h
  obtain ⟨m, h1, h2⟩ := h
  obtain ⟨td, rfl⟩ := clear_lone (fr := { fn := 17, tmps := #[.bool true, .int .i64 3, .bool true, .bool true, .int .i64 (-1), .bool true, .bool true], todo := [], defers := [], mode := .returning, kind := .normal }) h2
  exact ⟨.returned (.bool true), w, _, ⟨rfl, rfl⟩, toEnd_steps _ _ _ _ _ h1, rfl, rfl, rfl, rfl, _, Try.func17, by kernel_rfl⟩
def c_laws_alive : Ctr where
  modes := []
  al := false
  run := fun xs os => match xs, os with
    | [], [] => some ⟨True, .bool true, [], []⟩
    | _, _ => none
theorem m_laws_alive : Meets Try.prog 17 c_laws_alive := by
  refine ⟨⟨_, Try.func17, (by rfl), rfl⟩, ?_, fun rl hrl => by cases hrl⟩
  intro w vs args owns ss A pre S hrun hpre hcla hclo hA hal hargs howns hlt hap
  have ha := args_len [] args ss vs hargs
  have hv : vs = [] := List.eq_nil_of_length_eq_zero ha.1
  have hs : ss = [] := List.eq_nil_of_length_eq_zero ha.2.1
  subst hv hs
  have ho : owns = [] := List.eq_nil_of_length_eq_zero (by simpa using howns.length)
  subst ho
  match args, hrun with
  | [], hrun =>
    simp only [runR, c_laws_alive, Option.map_some, Option.some.injEq, Prod.mk.injEq] at hrun
    obtain ⟨_, rfl⟩ := hrun
    refine Calls.mono (alive_calls w) ?_
    rintro e w' ⟨rfl, rfl⟩
    exact ⟨_, rfl, _, [], rfl, ⟨fun _ _ _ => rfl, Nat.le_refl _, rfl, rfl, rfl, Nat.le_refl _⟩, trivial, trivial, fun b hb => by simp [inB] at hb, fun i j s t h => by simp at h, rfl⟩
  | _ :: _, hrun => simp [runR, c_laws_alive] at hrun
end Go.Proofs.Ytpiaeckkjdcifaa
