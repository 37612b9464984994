/- The types of this program that the method's table holds, each with the closed facts that it rests on. No condition. -/
import Derived.Test.YtpiklifnbbhleaaCoreN
import Derived.Test.YtpiklifnbbhleaaProg
import Derived.KernelRfl
namespace Go.Proofs.Ytpiklifnbbhleaa
set_option linter.unusedVariables false
set_option linter.unusedSimpArgs false
open Go

def tdInt : TD := ⟨.int .i64 0, 1, 8, .int .i64⟩
theorem okInt : TyOK Try.prog 3 tdInt := ⟨by kernel_rfl, by rfl, (show Try.prog.underlying 3 = some (.int .i64) from by kernel_rfl)⟩
def tdBool : TD := ⟨.bool false, 1, 1, .bool⟩
theorem okBool : TyOK Try.prog 4 tdBool := ⟨by kernel_rfl, by rfl, (show Try.prog.underlying 4 = some .bool from by kernel_rfl)⟩
def tdU8 : TD := ⟨.int .u8 0, 1, 1, .int .u8⟩
theorem okU8 : TyOK Try.prog 5 tdU8 := ⟨by kernel_rfl, by rfl, (show Try.prog.underlying 5 = some (.int .u8) from by kernel_rfl)⟩
def tdInts : TD := ⟨.slice none 0 0, 1, 24, .sl 3 .i64⟩
theorem okInts : TyOK Try.prog 24 tdInts := ⟨by kernel_rfl, by rfl, ⟨(show Try.prog.underlying 24 = some (.slice 3) from by kernel_rfl), (show infoOf Try.prog 3 = some (some (FT.zeroV .i64), FT.size .i64, FT.bytes .i64) from by kernel_rfl)⟩⟩
def tdRows : TD := ⟨.slice none 0 0, 1, 24, .slr 24⟩
theorem okRows : TyOK Try.prog 22 tdRows := ⟨by kernel_rfl, by rfl, ⟨(show Try.prog.underlying 22 = some (.slice 24) from by kernel_rfl), (show infoOf Try.prog 24 = some (some (.slice none 0 0), 1, 24) from by kernel_rfl)⟩⟩
def tyL : List (Nat × TD) := [
 (3, tdInt),
 (4, tdBool),
 (5, tdU8),
 (24, tdInts),
 (22, tdRows),
  (1000000, ⟨.bool false, 1, 1, .other⟩)]
def tyT (t : TypeId) : Option TD := if t = 1000000 then none else look tyL t
theorem tyInt : tyT 3 = some tdInt := rfl
theorem tyBool : tyT 4 = some tdBool := rfl
theorem tyU8 : tyT 5 = some tdU8 := rfl
theorem tyInts : tyT 24 = some tdInts := rfl
theorem tyRows : tyT 22 = some tdRows := rfl
theorem look_mem {α : Type} : ∀ (l : List (Nat × α)) (t : Nat) (d : α), look l t = some d → (t, d) ∈ l
  | [], _, _, h => by simp [look] at h
  | (k, v) :: l, t, d, h => by
    simp only [look] at h
    split at h
    · rename_i e; subst e; cases h; simp
    · exact List.mem_cons_of_mem _ (look_mem l t d h)
set_option maxRecDepth 100000 in
theorem tyOK : ∀ t d, tyT t = some d → TyOK Try.prog t d := by
  intro t d h
  unfold tyT at h
  split at h
  · cases h
  · rename_i hne
    have hm := look_mem tyL t d h
    simp only [tyL, List.mem_cons, Prod.mk.injEq, List.not_mem_nil, or_false] at hm
    repeat (rcases hm with ⟨rfl, rfl⟩ | hm; first
      | exact okInt
      | exact okBool
      | exact okU8
      | exact okInts
      | exact okRows
      | exact absurd rfl hne)
end Go.Proofs.Ytpiklifnbbhleaa
