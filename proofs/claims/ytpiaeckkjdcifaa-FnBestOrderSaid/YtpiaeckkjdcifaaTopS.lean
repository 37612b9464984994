/- Openers of arguments that are slices. No condition. -/
import Derived.Test.YtpiaeckkjdcifaaTop
import Derived.Deep.Slices
namespace Go.Proofs.Ytpiaeckkjdcifaa
set_option linter.unusedVariables false
set_option linter.unusedSimpArgs false
open Go Go.ChangeShapes Go.WideShapes Go.ChangeAt Go.RowKit Go.Joins

theorem add_none {a : Addr} (h : a.spot = none) (n : Nat) : a.add n = ⟨a.block, a.off + n, none⟩ := by
  obtain ⟨b, o, s⟩ := a
  simp only at h; subst h
  unfold Addr.add
  split
  · rename_i h; subst h; rfl
  · rfl

/-- Cells in a row are a slice that is only read. -/
theorem ro_of {τ : FT} {W : World} {a : Addr} {len cap : Nat} (hl : len ≤ cap) (hm : cap ≤ maxLen) (f : Nat → τ.T) (hc : ∀ i, i < len → ∀ k u, (τ.vals (f i))[k]? = some u → W.cell? (a.add (i * τ.size + k)) = some u) :
    ROflat W (fun _ => False) τ ((List.range len).map f) (.slice (some a) len cap) := by
  by_cases h0 : len = 0
  · subst h0; exact .inl ⟨rfl, _, _, rfl⟩
  · right
    have hsz := size_pos τ
    have hsp : a.spot = none := by
      have h1 : 0 < (τ.vals (f 0)).length := by rw [flat_len]; exact hsz
      have := hc 0 (by omega) 0 _ (List.getElem?_eq_getElem h1)
      have e : a.add (0 * τ.size + 0) = a := by simp [Addr.add]
      rw [e] at this
      exact World.cell?_spot this
    obtain ⟨b, off, s⟩ := a
    simp only at hsp; subst hsp
    refine ⟨b, off, cap, by simp, by simpa using hl, hm, id, fun i u hu => ?_⟩
    have hlt : i < len * τ.size := by
      have := (List.getElem?_eq_some_iff.1 hu).1
      rw [flat_length] at this
      simpa using this
    have hi : i / τ.size < len := by rw [Nat.div_lt_iff_lt_mul hsz]; exact hlt
    have hk : i % τ.size < τ.size := Nat.mod_lt _ hsz
    have hx : ((List.range len).map f)[i / τ.size]? = some (f (i / τ.size)) := by simp [hi]
    have e : i / τ.size * τ.size + i % τ.size = i := by rw [Nat.mul_comm]; exact Nat.div_add_mod _ _
    have := flat_get τ _ (i / τ.size) (i % τ.size) _ hk hx
    rw [e] at this
    rw [this] at hu
    have h2 := hc _ hi _ _ hu
    rw [e, add_none rfl] at h2
    exact h2

section
variable {H : Type} {enc : TypeId × Value → H} {W : World} {base b0 : Nat} {spare : Nat → Bool} {held : Bool} {v : Value} {d : DataW H} {p : List MemPlace}

theorem maxLen_eq : maxLen = 9223372036854775807 := by decide

set_option maxRecDepth 100000 in
/-- One integer slice out of its cells. -/
theorem ints_of {fuel : Nat} {c : Value} {x : DataW H × List MemPlace} (h : DataW.trod enc Try.prog W base spare held fuel 24 [c] = some x) :
    ∃ xs : List Int, (xs.length ≤ 9223372036854775807 ∧ ∀ n ∈ xs, -9223372036854775808 ≤ n ∧ n ≤ 9223372036854775807) ∧ ROflat W (fun _ => False) .i64 xs c := by
  rcases open_ints Try.underlying24 Try.underlying3 (by kernel_rfl) h with ⟨hcs, _⟩ | ⟨a, l, cap, zs, hcs, _, hl, hm, hz, _, hcell, hwz⟩
  · simp at hcs; subst hcs
    exact ⟨[], ⟨by simp, by simp⟩, .inl ⟨rfl, _, _, rfl⟩⟩
  · simp at hcs; subst hcs
    have hle : l ≤ zs.length := by rw [hz]; split <;> omega
    have := ro_of (τ := .i64) (W := W) (a := a) hl hm (fun i => zs.getD i 0) (fun i hi k u hu => by
      cases k with
      | zero =>
        simp only [FT.vals, List.getElem?_cons_zero, Option.some.injEq] at hu
        subst hu
        simpa [FT.size] using hcell i (by omega)
      | succ k => simp [FT.vals] at hu)
    refine ⟨(List.range l).map fun i => zs.getD i 0, ⟨by simp; have := maxLen_eq; omega, ?_⟩, this⟩
    intro n hn
    obtain ⟨i, hi, rfl⟩ := List.mem_map.1 hn
    have hil : i < zs.length := by have := List.mem_range.1 hi; omega
    have hmem : zs.getD i 0 ∈ zs := by simp [List.getD_eq_getElem?_getD, List.getElem?_eq_getElem hil]
    exact bnd_i64 (hwz _ hmem)
set_option maxRecDepth 100000 in
theorem arg_ints (hv : Value.okWide Try.prog W .any b0 24 v) (h : DataW.Trod enc Try.prog W base spare held 24 v d p) :
    ∃ xs : List Int, (xs.length ≤ 9223372036854775807 ∧ ∀ n ∈ xs, -9223372036854775808 ≤ n ∧ n ≤ 9223372036854775807) ∧ RelV W (fun _ => False) noSig (.rs .i64 xs) v := by
  obtain ⟨a0, len, cap, rfl⟩ := okWide_slice Try.underlying24 hv
  obtain ⟨fuel, hf⟩ := h
  exact ints_of (c := .slice a0 len cap) hf
set_option maxRecDepth 100000 in
theorem arg_rows (hv : Value.okWide Try.prog W .any b0 23 v) (h : DataW.Trod enc Try.prog W base spare held 23 v d p) :
    ∃ xss : List (List Int), (xss.length ≤ 9223372036854775807 ∧ ∀ xs ∈ xss, xs.length ≤ 9223372036854775807 ∧ ∀ n ∈ xs, -9223372036854775808 ≤ n ∧ n ≤ 9223372036854775807) ∧ RelV W (fun _ => False) noSig (.rows xss) v := by
  obtain ⟨a0, len, cap, rfl⟩ := okWide_slice Try.underlying23 hv
  obtain ⟨fuel, hf⟩ := h
  rcases Go.Deep.open_slice Try.underlying23 hf with ⟨hcs, _⟩ | ⟨a, l, cap', m, n, D, Pl, hcs, _, hl, hm, hz, _, hcell⟩
  · simp [Value.cells] at hcs
    obtain ⟨rfl, rfl, rfl⟩ := hcs
    exact ⟨[], ⟨by simp, by simp⟩, .inl ⟨rfl, _, _, rfl⟩⟩
  · simp [Value.cells] at hcs
    obtain ⟨rfl, rfl, rfl⟩ := hcs
    have hle : len ≤ m := by rw [hz]; split <;> omega
    have hone : Try.prog.cellsOf 24 = 1 := by kernel_rfl
    have key : ∀ i, ∃ q : Value × List Int, i < len → (W.cell? (a.add i) = some q.1 ∧ (q.2.length ≤ 9223372036854775807 ∧ ∀ n ∈ q.2, -9223372036854775808 ≤ n ∧ n ≤ 9223372036854775807) ∧ ROflat W (fun _ => False) .i64 q.2 q.1) := by
      intro i
      by_cases hi : i < len
      · obtain ⟨cs', h1, h2⟩ := hcell i (by omega)
        rw [hone] at h1
        obtain ⟨_, h3, h4⟩ := World.cells?_some h1
        match cs', h3 with
        | [c], _ =>
          obtain ⟨xs, h5, h6⟩ := ints_of h2
          refine ⟨(c, xs), fun _ => ⟨?_, h5, h6⟩⟩
          have := h4 0 (by omega)
          simpa [Addr.add] using this
      · exact ⟨(undef, []), fun h => absurd h hi⟩
    obtain ⟨f, hfk⟩ := Classical.axiomOfChoice key
    refine ⟨(List.range len).map fun i => (f i).2, ⟨by simp; have := maxLen_eq; omega, ?_⟩, ?_⟩
    · intro xs hxs
      obtain ⟨i, hi, rfl⟩ := List.mem_map.1 hxs
      exact (hfk i (List.mem_range.1 hi)).2.1
    · by_cases h0 : len = 0
      · subst h0; exact .inl ⟨rfl, _, _, rfl⟩
      · have hsp : a.spot = none := by
          have := (hfk 0 (by omega)).1
          simp only [Addr.add, if_true] at this
          exact World.cell?_spot this
        obtain ⟨b, off, s⟩ := a
        simp only at hsp; subst hsp
        refine .inr ⟨b, off, cap, (List.range len).map fun i => (f i).1, by simp, by simpa using hl, hm, id, by simp, ?_, ?_⟩
        · intro i u hu
          have hi : i < len := by have := (List.getElem?_eq_some_iff.1 hu).1; simpa using this
          simp [hi] at hu; subst hu
          have := (hfk i hi).1
          rwa [add_none rfl] at this
        · intro i u xs hu hxs
          have hi : i < len := by have := (List.getElem?_eq_some_iff.1 hu).1; simpa using this
          simp [hi] at hu hxs; subst hu; subst hxs
          exact (hfk i hi).2.2
end
end Go.Proofs.Ytpiaeckkjdcifaa
