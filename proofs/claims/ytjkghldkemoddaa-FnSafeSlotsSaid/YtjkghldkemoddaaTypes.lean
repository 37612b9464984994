/- The types of this program that the method's table holds, each with the closed facts that it rests on. No condition. -/
import Derived.Test.YtjkghldkemoddaaCoreN
import Derived.Test.YtjkghldkemoddaaProg
import Derived.KernelRfl
import Derived.Laws.StructEq
namespace Go.Proofs.Ytjkghldkemoddaa
set_option linter.unusedVariables false
set_option linter.unusedSimpArgs false
open Go

theorem pairEqs : PairEq Try.prog 66 := by
  have hu : Try.prog.underlying 66 = some (.struct (Try.prog.fieldsOf 66)) := by kernel_rfl
  have hs : Try.prog.stoodInHeld 66 = false := by kernel_rfl
  have hm : Try.prog.eqGuardType Try.prog.depth 66 = false := by kernel_rfl
  have hi : Try.prog.underlying 3 = some (.int .i64) := by kernel_rfl
  have hn : (Try.prog.fieldsOf 66).toList.map (fun f => (f.type, f.offset)) = [(3, 0), (3, 1)] := by kernel_rfl
  have hk : (Try.prog.fieldsOf 66).toList.all (fun f => f.name != "_") = true := by kernel_rfl
  generalize hl : (Try.prog.fieldsOf 66).toList = l at hn hk
  rcases l with _ | ⟨f1, _ | ⟨f2, _ | ⟨f3, l⟩⟩⟩ <;> simp only [List.map_cons, List.map_nil, List.cons.injEq, Prod.mk.injEq, reduceCtorEq, and_false, false_and, and_true] at hn
  obtain ⟨⟨t1, o1⟩, t2, o2⟩ := hn
  simp only [List.all_cons, List.all_nil, Bool.and_true, Bool.and_eq_true, bne_iff_ne, ne_eq] at hk
  obtain ⟨n1, n2⟩ := hk
  have hq : ∀ (a b c d : Int) (w : World), (Op.equalIn 10000 66 (.agg #[.int .i64 a, .int .i64 b]) (.agg #[.int .i64 c, .int .i64 d])).run Try.prog w = .ok (decide (a = c) && decide (b = d)) w := by
    intro a b c d w
    rw [run_equalIn_agg (P := Try.prog) w 9999 _ _ _ hu hs, hl]
    simp only [Op.eqFields, n1, n2, t1, t2, o1, o2, ne_eq, not_false_eq_true, if_true]
    have e : ∀ (m n : Int) (w : World), (Op.equalIn 9999 3 (.int .i64 m) (.int .i64 n)).run Try.prog w = .ok (m == n) w := fun m n w => run_equalIn_int w 9998 _ _ _ _ _ hi
    simp [part, e]
    by_cases h1 : a = c <;> by_cases h2 : b = d <;> simp [h1, h2]
  intro x y a b c d w
  refine ⟨⟨run_eqGuard_agg w _ _ _ _ _ _ hm, ?_⟩, run_eqGuard_agg w _ _ _ _ _ _ hm, ?_⟩
  · rw [run_eql_struct, hq]; rfl
  · rw [run_neq_struct, hq]; rfl
def tdInt : TD := ⟨.int .i64 0, 1, 8, .int .i64⟩
theorem okInt : TyOK Try.prog 3 tdInt := ⟨by kernel_rfl, ⟨by rfl, fun h1 h2 => by first | exact absurd h1 (by decide) | exact absurd h2 (by decide) | exact pairEqs⟩, (show Try.prog.underlying 3 = some (.int .i64) from by kernel_rfl)⟩
def tdBool : TD := ⟨.bool false, 1, 1, .bool⟩
theorem okBool : TyOK Try.prog 4 tdBool := ⟨by kernel_rfl, ⟨by rfl, fun h1 h2 => by first | exact absurd h1 (by decide) | exact absurd h2 (by decide) | exact pairEqs⟩, (show Try.prog.underlying 4 = some .bool from by kernel_rfl)⟩
def tdU8 : TD := ⟨.int .u8 0, 1, 1, .int .u8⟩
theorem okU8 : TyOK Try.prog 5 tdU8 := ⟨by kernel_rfl, ⟨by rfl, fun h1 h2 => by first | exact absurd h1 (by decide) | exact absurd h2 (by decide) | exact pairEqs⟩, (show Try.prog.underlying 5 = some (.int .u8) from by kernel_rfl)⟩
def tdInts : TD := ⟨.slice none 0 0, 1, 24, .sl 3 .i64⟩
theorem okInts : TyOK Try.prog 26 tdInts := ⟨by kernel_rfl, ⟨by rfl, fun h1 h2 => by first | exact absurd h1 (by decide) | exact absurd h2 (by decide) | exact pairEqs⟩, ⟨(show Try.prog.underlying 26 = some (.slice 3) from by kernel_rfl), (show infoOf Try.prog 3 = some (some (FT.zeroV .i64), FT.size .i64, FT.bytes .i64) from by kernel_rfl)⟩⟩
def tdBytes : TD := ⟨.slice none 0 0, 1, 24, .sl 5 .u8⟩
theorem okBytes : TyOK Try.prog 22 tdBytes := ⟨by kernel_rfl, ⟨by rfl, fun h1 h2 => by first | exact absurd h1 (by decide) | exact absurd h2 (by decide) | exact pairEqs⟩, ⟨(show Try.prog.underlying 22 = some (.slice 5) from by kernel_rfl), (show infoOf Try.prog 5 = some (some (FT.zeroV .u8), FT.size .u8, FT.bytes .u8) from by kernel_rfl)⟩⟩
def tdHull : TD := ⟨.agg #[.int .i64 0, .int .i64 0, .int .i64 0], 3, 24, .str⟩
theorem okHull : TyOK Try.prog 24 tdHull := ⟨by kernel_rfl, ⟨by rfl, fun h1 h2 => by first | exact absurd h1 (by decide) | exact absurd h2 (by decide) | exact pairEqs⟩, (show structPlaces Try.prog 24 = some ((List.range 3).map fun k => (k, 1, false)) from by kernel_rfl)⟩
def tdBox : TD := ⟨.agg #[.int .i64 0, .int .i64 0, .int .i64 0, .int .i64 0, .bool false], 5, 40, .str⟩
theorem okBox : TyOK Try.prog 64 tdBox := ⟨by kernel_rfl, ⟨by rfl, fun h1 h2 => by first | exact absurd h1 (by decide) | exact absurd h2 (by decide) | exact pairEqs⟩, (show structPlaces Try.prog 64 = some ((List.range 5).map fun k => (k, 1, false)) from by kernel_rfl)⟩
def tdBoxes : TD := ⟨.slice none 0 0, 1, 24, .sl 64 .box⟩
theorem okBoxes : TyOK Try.prog 25 tdBoxes := ⟨by kernel_rfl, ⟨by rfl, fun h1 h2 => by first | exact absurd h1 (by decide) | exact absurd h2 (by decide) | exact pairEqs⟩, ⟨(show Try.prog.underlying 25 = some (.slice 64) from by kernel_rfl), (show infoOf Try.prog 64 = some (some (FT.zeroV .box), FT.size .box, FT.bytes .box) from by kernel_rfl)⟩⟩
def tdPair : TD := ⟨.agg #[.int .i64 0, .int .i64 0], 2, 16, .str⟩
theorem okPair : TyOK Try.prog 66 tdPair := ⟨by kernel_rfl, ⟨by rfl, fun h1 h2 => by first | exact absurd h1 (by decide) | exact absurd h2 (by decide) | exact pairEqs⟩, (show structPlaces Try.prog 66 = some ((List.range 2).map fun k => (k, 1, false)) from by kernel_rfl)⟩
def tdPairs : TD := ⟨.slice none 0 0, 1, 24, .sl 66 .pair⟩
theorem okPairs : TyOK Try.prog 60 tdPairs := ⟨by kernel_rfl, ⟨by rfl, fun h1 h2 => by first | exact absurd h1 (by decide) | exact absurd h2 (by decide) | exact pairEqs⟩, ⟨(show Try.prog.underlying 60 = some (.slice 66) from by kernel_rfl), (show infoOf Try.prog 66 = some (some (FT.zeroV .pair), FT.size .pair, FT.bytes .pair) from by kernel_rfl)⟩⟩
def tdRd : TD := ⟨.agg #[.slice none 0 0, .int .i64 0], 2, 32, .str⟩
theorem okRd : TyOK Try.prog 95 tdRd := ⟨by kernel_rfl, ⟨by rfl, fun h1 h2 => by first | exact absurd h1 (by decide) | exact absurd h2 (by decide) | exact pairEqs⟩, (show structPlaces Try.prog 95 = some ((List.range 2).map fun k => (k, 1, false)) from by kernel_rfl)⟩
def tdRdP : TD := ⟨.pointer none, 1, 8, .other⟩
theorem okRdP : TyOK Try.prog 68 tdRdP := ⟨by kernel_rfl, ⟨by rfl, fun h1 h2 => by first | exact absurd h1 (by decide) | exact absurd h2 (by decide) | exact pairEqs⟩, (show (Try.prog.underlying 68).map aggT = some false from by kernel_rfl)⟩
def tyL : List (Nat × TD) := [
 (3, tdInt),
 (4, tdBool),
 (5, tdU8),
 (26, tdInts),
 (22, tdBytes),
 (24, tdHull),
 (64, tdBox),
 (25, tdBoxes),
 (66, tdPair),
 (60, tdPairs),
 (95, tdRd),
 (68, tdRdP),
  (1000000, ⟨.bool false, 1, 1, .other⟩)]
def tyT (t : TypeId) : Option TD := if t = 1000000 then none else look tyL t
theorem tyInt : tyT 3 = some tdInt := rfl
theorem tyBool : tyT 4 = some tdBool := rfl
theorem tyU8 : tyT 5 = some tdU8 := rfl
theorem tyInts : tyT 26 = some tdInts := rfl
theorem tyBytes : tyT 22 = some tdBytes := rfl
theorem tyHull : tyT 24 = some tdHull := rfl
theorem tyBox : tyT 64 = some tdBox := rfl
theorem tyBoxes : tyT 25 = some tdBoxes := rfl
theorem tyPair : tyT 66 = some tdPair := rfl
theorem tyPairs : tyT 60 = some tdPairs := rfl
theorem tyRd : tyT 95 = some tdRd := rfl
theorem tyRdP : tyT 68 = some tdRdP := rfl
theorem look_mem {α : Type} : ∀ (l : List (Nat × α)) (t : Nat) (d : α), look l t = some d → (t, d) ∈ l
  | [], _, _, h => by simp [look] at h
  | (k, v) :: l, t, d, h => by
    simp only [look] at h
    split at h
    · rename_i e; subst e; cases h; simp
    · exact List.mem_cons_of_mem _ (look_mem l t d h)
set_option maxRecDepth 100000 in
theorem tyOK : ∀ t d, tyT t = some d → TyOK Try.prog t d := by
  intro t d h
  unfold tyT at h
  split at h
  · cases h
  · rename_i hne
    have hm := look_mem tyL t d h
    simp only [tyL, List.mem_cons, Prod.mk.injEq, List.not_mem_nil, or_false] at hm
    repeat (rcases hm with ⟨rfl, rfl⟩ | hm; first
      | exact okInt
      | exact okBool
      | exact okU8
      | exact okInts
      | exact okBytes
      | exact okHull
      | exact okBox
      | exact okBoxes
      | exact okPair
      | exact okPairs
      | exact okRd
      | exact okRdP
      | exact absurd rfl hne)
end Go.Proofs.Ytjkghldkemoddaa
