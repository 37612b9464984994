/- The types of this program that the method's table holds, each with the closed facts that it rests on. No condition. -/
import Derived.Test.YtpiaeckkjdcifaaCoreN
import Derived.Test.YtpiaeckkjdcifaaProg
import Derived.KernelRfl
namespace Go.Proofs.Ytpiaeckkjdcifaa
set_option linter.unusedVariables false
set_option linter.unusedSimpArgs false
open Go

def tdInt : TD := ⟨.int .i64 0, 1, 8, .int .i64⟩
theorem okInt : TyOK Try.prog 3 tdInt := ⟨by kernel_rfl, by rfl, (show Try.prog.underlying 3 = some (.int .i64) from by kernel_rfl)⟩
def tdBool : TD := ⟨.bool false, 1, 1, .bool⟩
theorem okBool : TyOK Try.prog 4 tdBool := ⟨by kernel_rfl, by rfl, (show Try.prog.underlying 4 = some .bool from by kernel_rfl)⟩
def tdU8 : TD := ⟨.int .u8 0, 1, 1, .int .u8⟩
theorem okU8 : TyOK Try.prog 5 tdU8 := ⟨by kernel_rfl, by rfl, (show Try.prog.underlying 5 = some (.int .u8) from by kernel_rfl)⟩
def tdInts : TD := ⟨.slice none 0 0, 1, 24, .sl 3 .i64⟩
theorem okInts : TyOK Try.prog 24 tdInts := ⟨by kernel_rfl, by rfl, ⟨(show Try.prog.underlying 24 = some (.slice 3) from by kernel_rfl), (show infoOf Try.prog 3 = some (some (FT.zeroV .i64), FT.size .i64, FT.bytes .i64) from by kernel_rfl)⟩⟩
def tdRows : TD := ⟨.slice none 0 0, 1, 24, .slr 24⟩
theorem okRows : TyOK Try.prog 23 tdRows := ⟨by kernel_rfl, by rfl, ⟨(show Try.prog.underlying 23 = some (.slice 24) from by kernel_rfl), (show infoOf Try.prog 24 = some (some (.slice none 0 0), 1, 24) from by kernel_rfl)⟩⟩
def tdBytes : TD := ⟨.slice none 0 0, 1, 24, .sl 5 .u8⟩
theorem okBytes : TyOK Try.prog 22 tdBytes := ⟨by kernel_rfl, by rfl, ⟨(show Try.prog.underlying 22 = some (.slice 5) from by kernel_rfl), (show infoOf Try.prog 5 = some (some (FT.zeroV .u8), FT.size .u8, FT.bytes .u8) from by kernel_rfl)⟩⟩
def tdHull : TD := ⟨.agg #[.int .i64 0, .int .i64 0, .int .i64 0], 3, 24, .str⟩
theorem okHull : TyOK Try.prog 46 tdHull := ⟨by kernel_rfl, by rfl, (show structPlaces Try.prog 46 = some ((List.range 3).map fun k => (k, 1, false)) from by kernel_rfl)⟩
def tdLHull : TD := ⟨.agg #[.int .i64 0, .int .i64 0, .int .i64 0], 3, 24, .str⟩
theorem okLHull : TyOK Try.prog 42 tdLHull := ⟨by kernel_rfl, by rfl, (show structPlaces Try.prog 42 = some ((List.range 3).map fun k => (k, 1, false)) from by kernel_rfl)⟩
def tdBox : TD := ⟨.agg #[.int .i64 0, .int .i64 0, .int .i64 0, .int .i64 0, .bool false], 5, 40, .str⟩
theorem okBox : TyOK Try.prog 81 tdBox := ⟨by kernel_rfl, by rfl, (show structPlaces Try.prog 81 = some ((List.range 5).map fun k => (k, 1, false)) from by kernel_rfl)⟩
def tdLBox : TD := ⟨.agg #[.int .i64 0, .int .i64 0, .int .i64 0, .int .i64 0, .bool false], 5, 40, .str⟩
theorem okLBox : TyOK Try.prog 83 tdLBox := ⟨by kernel_rfl, by rfl, (show structPlaces Try.prog 83 = some ((List.range 5).map fun k => (k, 1, false)) from by kernel_rfl)⟩
def tdBoxes : TD := ⟨.slice none 0 0, 1, 24, .sl 81 .box⟩
theorem okBoxes : TyOK Try.prog 48 tdBoxes := ⟨by kernel_rfl, by rfl, ⟨(show Try.prog.underlying 48 = some (.slice 81) from by kernel_rfl), (show infoOf Try.prog 81 = some (some (FT.zeroV .box), FT.size .box, FT.bytes .box) from by kernel_rfl)⟩⟩
def tdLBoxes : TD := ⟨.slice none 0 0, 1, 24, .sl 83 .box⟩
theorem okLBoxes : TyOK Try.prog 43 tdLBoxes := ⟨by kernel_rfl, by rfl, ⟨(show Try.prog.underlying 43 = some (.slice 83) from by kernel_rfl), (show infoOf Try.prog 83 = some (some (FT.zeroV .box), FT.size .box, FT.bytes .box) from by kernel_rfl)⟩⟩
def tdRd : TD := ⟨.agg #[.slice none 0 0, .int .i64 0], 2, 32, .str⟩
theorem okRd : TyOK Try.prog 104 tdRd := ⟨by kernel_rfl, by rfl, (show structPlaces Try.prog 104 = some ((List.range 2).map fun k => (k, 1, false)) from by kernel_rfl)⟩
def tdRdP : TD := ⟨.pointer none, 1, 8, .other⟩
theorem okRdP : TyOK Try.prog 67 tdRdP := ⟨by kernel_rfl, by rfl, (show (Try.prog.underlying 67).map aggT = some false from by kernel_rfl)⟩
def tyL : List (Nat × TD) := [
 (3, tdInt),
 (4, tdBool),
 (5, tdU8),
 (24, tdInts),
 (23, tdRows),
 (22, tdBytes),
 (46, tdHull),
 (42, tdLHull),
 (81, tdBox),
 (83, tdLBox),
 (48, tdBoxes),
 (43, tdLBoxes),
 (104, tdRd),
 (67, tdRdP),
  (1000000, ⟨.bool false, 1, 1, .other⟩)]
def tyT (t : TypeId) : Option TD := if t = 1000000 then none else look tyL t
theorem tyInt : tyT 3 = some tdInt := rfl
theorem tyBool : tyT 4 = some tdBool := rfl
theorem tyU8 : tyT 5 = some tdU8 := rfl
theorem tyInts : tyT 24 = some tdInts := rfl
theorem tyRows : tyT 23 = some tdRows := rfl
theorem tyBytes : tyT 22 = some tdBytes := rfl
theorem tyHull : tyT 46 = some tdHull := rfl
theorem tyLHull : tyT 42 = some tdLHull := rfl
theorem tyBox : tyT 81 = some tdBox := rfl
theorem tyLBox : tyT 83 = some tdLBox := rfl
theorem tyBoxes : tyT 48 = some tdBoxes := rfl
theorem tyLBoxes : tyT 43 = some tdLBoxes := rfl
theorem tyRd : tyT 104 = some tdRd := rfl
theorem tyRdP : tyT 67 = some tdRdP := rfl
theorem look_mem {α : Type} : ∀ (l : List (Nat × α)) (t : Nat) (d : α), look l t = some d → (t, d) ∈ l
  | [], _, _, h => by simp [look] at h
  | (k, v) :: l, t, d, h => by
    simp only [look] at h
    split at h
    · rename_i e; subst e; cases h; simp
    · exact List.mem_cons_of_mem _ (look_mem l t d h)
set_option maxRecDepth 100000 in
theorem tyOK : ∀ t d, tyT t = some d → TyOK Try.prog t d := by
  intro t d h
  unfold tyT at h
  split at h
  · cases h
  · rename_i hne
    have hm := look_mem tyL t d h
    simp only [tyL, List.mem_cons, Prod.mk.injEq, List.not_mem_nil, or_false] at hm
    repeat (rcases hm with ⟨rfl, rfl⟩ | hm; first
      | exact okInt
      | exact okBool
      | exact okU8
      | exact okInts
      | exact okRows
      | exact okBytes
      | exact okHull
      | exact okLHull
      | exact okBox
      | exact okLBox
      | exact okBoxes
      | exact okLBoxes
      | exact okRd
      | exact okRdP
      | exact absurd rfl hne)
end Go.Proofs.Ytpiaeckkjdcifaa
