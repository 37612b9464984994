/- Openers of arguments that are slices of boxes. No condition. -/
import Derived.Test.YtpiaeckkjdcifaaTopS
namespace Go.Proofs.Ytpiaeckkjdcifaa
set_option linter.unusedVariables false
set_option linter.unusedSimpArgs false
open Go Go.ChangeShapes Go.WideShapes Go.ChangeAt Go.RowKit Go.Joins Go.Deep

section
variable {H : Type} {enc : TypeId × Value → H} {P : Program} {W : World} {base b0 : Nat} {spare : Nat → Bool} {held : Bool} {v : Value} {d : DataW H} {p : List MemPlace}
theorem trod_struct5 {t : TypeId} {f0 f1 f2 f3 f4 : Field} {fuel : Nat} {cs : List Value} {x : DataW H × List MemPlace} (ht : P.underlying t = some (.struct #[f0, f1, f2, f3, f4])) (h : DataW.trod enc P W base spare held fuel t cs = some x) :
    ∃ y0 y1 y2 y3 y4 n, cs.length = P.cellsOf t ∧ DataW.trod enc P W base spare held n f0.type ((cs.drop f0.offset).take (P.cellsOf f0.type)) = some y0 ∧
      DataW.trod enc P W base spare held n f1.type ((cs.drop f1.offset).take (P.cellsOf f1.type)) = some y1 ∧ DataW.trod enc P W base spare held n f2.type ((cs.drop f2.offset).take (P.cellsOf f2.type)) = some y2 ∧
      DataW.trod enc P W base spare held n f3.type ((cs.drop f3.offset).take (P.cellsOf f3.type)) = some y3 ∧ DataW.trod enc P W base spare held n f4.type ((cs.drop f4.offset).take (P.cellsOf f4.type)) = some y4 := by
  obtain ⟨xs, n, _, rfl, hl, hlen, hf⟩ := DataW.trod_struct ht h
  match xs, hlen with
  | [y0, y1, y2, y3, y4], _ => exact ⟨y0, y1, y2, y3, y4, n, hl, by simpa using hf 0 f0 rfl, by simpa using hf 1 f1 rfl, by simpa using hf 2 f2 rfl, by simpa using hf 3 f3 rfl, by simpa using hf 4 f4 rfl⟩
theorem list5 {α : Type} {cs : List α} (h : cs.length = 5) : ∃ c0 c1 c2 c3 c4, cs = [c0, c1, c2, c3, c4] := by
  match cs, h with
  | [c0, c1, c2, c3, c4], _ => exact ⟨c0, c1, c2, c3, c4, rfl⟩
theorem box_of {t : TypeId} {f0 f1 f2 f3 f4 : Field} {fuel : Nat} {cs : List Value} {x : DataW H × List MemPlace} (ht : P.underlying t = some (.struct #[f0, f1, f2, f3, f4]))
    (hone : oneCellFields P #[f0, f1, f2, f3, f4] = true) (hC : P.cellsOf t = 5) (k0 : P.underlying f0.type = some (.int .i64)) (k1 : P.underlying f1.type = some (.int .i64)) (k2 : P.underlying f2.type = some (.int .i64)) (k3 : P.underlying f3.type = some (.int .i64)) (k4 : P.underlying f4.type = some .bool)
    (h : DataW.trod enc P W base spare held fuel t cs = some x) : ∃ b : BoxD, cs = FT.box.vals b := by
  obtain ⟨y0, y1, y2, y3, y4, n, hl, h0, h1, h2, h3, h4⟩ := trod_struct5 ht h
  obtain ⟨c0, c1, c2, c3, c4, rfl⟩ := list5 (hl.trans hC)
  obtain ⟨o0, s0⟩ := hone_of hone 0 f0 rfl
  obtain ⟨o1, s1⟩ := hone_of hone 1 f1 rfl
  obtain ⟨o2, s2⟩ := hone_of hone 2 f2 rfl
  obtain ⟨o3, s3⟩ := hone_of hone 3 f3 rfl
  obtain ⟨o4, s4⟩ := hone_of hone 4 f4 rfl
  rw [o0, s0] at h0
  rw [o1, s1] at h1
  rw [o2, s2] at h2
  rw [o3, s3] at h3
  rw [o4, s4] at h4
  obtain ⟨n0, e0, _⟩ := DataW.trod_int k0 h0
  obtain ⟨n1, e1, _⟩ := DataW.trod_int k1 h1
  obtain ⟨n2, e2, _⟩ := DataW.trod_int k2 h2
  obtain ⟨n3, e3, _⟩ := DataW.trod_int k3 h3
  obtain ⟨n4, e4, _⟩ := DataW.trod_bool k4 h4
  simp at e0 e1 e2 e3 e4
  subst e0 e1 e2 e3 e4
  exact ⟨⟨n0, n1, n2, n3, n4⟩, rfl⟩
end
section
variable {H : Type} {enc : TypeId × Value → H} {W : World} {base b0 : Nat} {spare : Nat → Bool} {held : Bool} {v : Value} {d : DataW H} {p : List MemPlace}
set_option maxRecDepth 100000 in
theorem arg_boxes (hv : Value.okWide Try.prog W .any b0 43 v) (h : DataW.Trod enc Try.prog W base spare held 43 v d p) :
    ∃ xs : List BoxD, xs.length ≤ 9223372036854775807 ∧ RelV W (fun _ => False) noSig (.rs .box xs) v := by
  obtain ⟨a0, len, cap, rfl⟩ := okWide_slice Try.underlying43 hv
  obtain ⟨fuel, hf⟩ := h
  rcases Go.Deep.open_slice Try.underlying43 hf with ⟨hcs, _⟩ | ⟨a, l, cap', m, n, D, Pl, hcs, _, hl, hm, hz, _, hcell⟩
  · simp [Value.cells] at hcs
    obtain ⟨rfl, rfl, rfl⟩ := hcs
    exact ⟨[], by simp, .inl ⟨rfl, _, _, rfl⟩⟩
  · simp [Value.cells] at hcs
    obtain ⟨rfl, rfl, rfl⟩ := hcs
    have hle : len ≤ m := by rw [hz]; split <;> omega
    have hfive : Try.prog.cellsOf 83 = 5 := by kernel_rfl
    have key : ∀ i, ∃ q : BoxD, i < len → ∀ k u, (FT.box.vals q)[k]? = some u → W.cell? (a.add (i * 5 + k)) = some u := by
      intro i
      by_cases hi : i < len
      · obtain ⟨cs', h1, h2⟩ := hcell i (by omega)
        rw [hfive] at h1
        obtain ⟨_, h3, h4⟩ := World.cells?_some h1
        obtain ⟨q, rfl⟩ := box_of Try.underlying83 (by kernel_rfl) hfive Try.underlying3 Try.underlying3 Try.underlying3 Try.underlying3 Try.underlying4 h2
        refine ⟨q, fun _ k u hu => ?_⟩
        have hk : k < 5 := (List.getElem?_eq_some_iff.1 hu).1
        have := h4 k (by omega)
        rw [Go.Deep.add_add] at this
        rw [this]
        exact hu
      · exact ⟨default, fun h => absurd h hi⟩
    obtain ⟨f, hfk⟩ := Classical.axiomOfChoice key
    refine ⟨(List.range len).map f, by simp; have := maxLen_eq; omega, ?_⟩
    exact ro_of (τ := .box) (W := W) (a := a) hl hm f (fun i hi k u hu => hfk i hi k u hu)
end
end Go.Proofs.Ytpiaeckkjdcifaa
