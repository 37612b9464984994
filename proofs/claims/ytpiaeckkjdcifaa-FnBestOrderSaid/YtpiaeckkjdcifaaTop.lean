/- From a law's contract to the given statement: openers of arguments, and the call's ending. No condition. -/
import Derived.Test.YtpiaeckkjdcifaaWalk
import Derived.Test.YtpiaeckkjdcifaaRows
import Derived.WalkKit
import Derived.ProofKit
import Derived.OpenShut
import Derived.ChangeOld
import Derived.Below
import Derived.Lib.SmallJoins
namespace Go.Proofs.Ytpiaeckkjdcifaa
set_option linter.unusedVariables false
set_option linter.unusedSimpArgs false
open Go Go.ChangeShapes Go.WideShapes Go.ChangeAt Go.RowKit Go.Joins

theorem own : ownKnob Try.prog.godebug = none := by kernel_rfl
theorem laidOut : laidOutB Try.prog = true := by kernel_rfl

/-- What a law's call does. -/
theorem calls_true {f : FuncId} {C : Ctr} {args : List AV} {vs : List Value} {w : World} {pre : Prop} (hm : Meets Try.prog f C) (hal : C.al = false) (hrun : C.run args [] = some ⟨pre, .bool true, [], []⟩) (hpre : pre) (hcl : cleanL args = true)
    (hargs : ArgsRel w (fun _ => False) C.modes args [] vs) : Calls Try.prog f vs.toArray w fun e w' => e = .returned (.bool true) ∧ Below w.heap.size w w' := by
  have hD : (fun b => inB ([] : List (Value × List Nat)) b ∨ False) = fun _ => False := by
    funext b; apply propext; simp [inB]
  have := hm.2.1 w vs args [] [] (fun _ => False) pre (fun R' => R' = ⟨pre, .bool true, [], []⟩) (by simp only [runR, hrun, Option.map_some]) hpre hcl rfl (fun b hb => hb.elim) (fun _ b hb => hb) (by rw [hD]; exact hargs) trivial (fun b hb => by simp [inB] at hb) (fun i j s t h => by simp at h)
  refine Calls.mono this ?_
  rintro e w' ⟨_, rfl, v, ns, rfl, hmv, _, _, _, _, hv⟩
  exact ⟨by rw [show v = .bool true from hv], hmv.os, hmv.tape, hmv.output, hmv.size, fun k hk => hmv.block k hk (by simp [inB])⟩

theorem bnd_i64 {n : Int} (h : (Lit.int .i64 n).wf = true) : -9223372036854775808 ≤ n ∧ n ≤ 9223372036854775807 := by
  simp only [Lit.wf, Bool.and_eq_true, decide_eq_true_eq] at h
  exact h

section
variable {H : Type} {enc : TypeId × Value → H} {W : World} {base b0 : Nat} {spare : Nat → Bool} {held : Bool} {v : Value} {d : DataW H} {p : List MemPlace}
set_option maxRecDepth 100000 in
theorem arg_int (hv : Value.okWide Try.prog W .any b0 3 v) (h : DataW.Trod enc Try.prog W base spare held 3 v d p) : ∃ n : Int, (-9223372036854775808 ≤ n ∧ n ≤ 9223372036854775807) ∧ RelV W (fun _ => False) noSig (.int n) v := by
  obtain ⟨x, rfl, rfl, rfl, wx⟩ := open_int Try.underlying3 hv h
  exact ⟨x, bnd_i64 wx, rfl⟩
set_option maxRecDepth 100000 in
theorem arg_hull (hv : Value.okWide Try.prog W .any b0 42 v) (h : DataW.Trod enc Try.prog W base spare held 42 v d p) :
    ∃ b r t : Int, RelV W (fun _ => False) noSig (.agg [.int b, .int r, .int t]) v := by
  obtain ⟨c0, c1, c2, y0, y1, y2, m, rfl, rfl, rfl, hy0, hy1, hy2⟩ := open_agg3 Try.underlying42 (by kernel_rfl) (show Try.prog.cellsOf 42 = 3 from by kernel_rfl) hv h
  obtain ⟨a, e0, rfl, wa⟩ := DataW.trod_int Try.underlying3 hy0
  obtain ⟨b, e1, rfl, wb⟩ := DataW.trod_int Try.underlying3 hy1
  obtain ⟨c, e2, rfl, wc⟩ := DataW.trod_int Try.underlying3 hy2
  simp at e0 e1 e2; subst e0 e1 e2
  exact ⟨a, b, c, _, rfl, _, _, rfl, rfl, _, _, rfl, rfl, _, _, rfl, rfl, rfl⟩
end
end Go.Proofs.Ytpiaeckkjdcifaa
