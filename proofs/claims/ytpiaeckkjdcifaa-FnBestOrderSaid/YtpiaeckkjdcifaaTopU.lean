/- Opener of an argument that is a slice of bytes. No condition. -/
import Derived.Test.YtpiaeckkjdcifaaTopS
namespace Go.Proofs.Ytpiaeckkjdcifaa
set_option linter.unusedVariables false
set_option linter.unusedSimpArgs false
open Go Go.ChangeShapes Go.WideShapes Go.ChangeAt Go.RowKit Go.Joins

theorem bnd_u8 {n : Int} (h : (Lit.int .u8 n).wf = true) : 0 ≤ n ∧ n ≤ 255 := by
  simp only [Lit.wf, Bool.and_eq_true, decide_eq_true_eq] at h
  exact h
section
variable {H : Type} {enc : TypeId × Value → H} {W : World} {base b0 : Nat} {spare : Nat → Bool} {held : Bool} {v : Value} {d : DataW H} {p : List MemPlace}
set_option maxRecDepth 100000 in
theorem bytes_of {fuel : Nat} {c : Value} {x : DataW H × List MemPlace} (h : DataW.trod enc Try.prog W base spare held fuel 22 [c] = some x) :
    ∃ xs : List Int, (xs.length ≤ 9223372036854775807 ∧ ∀ n ∈ xs, 0 ≤ n ∧ n ≤ 255) ∧ ROflat W (fun _ => False) .u8 xs c := by
  rcases open_ints Try.underlying22 Try.underlying5 (by kernel_rfl) h with ⟨hcs, _⟩ | ⟨a, l, cap, zs, hcs, _, hl, hm, hz, _, hcell, hwz⟩
  · simp at hcs; subst hcs
    exact ⟨[], ⟨by simp, by simp⟩, .inl ⟨rfl, _, _, rfl⟩⟩
  · simp at hcs; subst hcs
    have hle : l ≤ zs.length := by rw [hz]; split <;> omega
    have := ro_of (τ := .u8) (W := W) (a := a) hl hm (fun i => zs.getD i 0) (fun i hi k u hu => by
      cases k with
      | zero =>
        simp only [FT.vals, List.getElem?_cons_zero, Option.some.injEq] at hu
        subst hu
        simpa [FT.size] using hcell i (by omega)
      | succ k => simp [FT.vals] at hu)
    refine ⟨(List.range l).map fun i => zs.getD i 0, ⟨by simp; have := maxLen_eq; omega, ?_⟩, this⟩
    intro n hn
    obtain ⟨i, hi, rfl⟩ := List.mem_map.1 hn
    have hil : i < zs.length := by have := List.mem_range.1 hi; omega
    have hmem : zs.getD i 0 ∈ zs := by simp [List.getD_eq_getElem?_getD, List.getElem?_eq_getElem hil]
    exact bnd_u8 (hwz _ hmem)
set_option maxRecDepth 100000 in
theorem arg_bytes (hv : Value.okWide Try.prog W .any b0 22 v) (h : DataW.Trod enc Try.prog W base spare held 22 v d p) :
    ∃ xs : List Int, (xs.length ≤ 9223372036854775807 ∧ ∀ n ∈ xs, 0 ≤ n ∧ n ≤ 255) ∧ RelV W (fun _ => False) noSig (.rs .u8 xs) v := by
  obtain ⟨a0, len, cap, rfl⟩ := okWide_slice Try.underlying22 hv
  obtain ⟨fuel, hf⟩ := h
  exact bytes_of (c := .slice a0 len cap) hf
end
end Go.Proofs.Ytpiaeckkjdcifaa
