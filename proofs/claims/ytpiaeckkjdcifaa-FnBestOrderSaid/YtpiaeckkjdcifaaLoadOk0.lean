/- Walk over loading step by step. No condition. -/
import Derived.Test.YtpiaeckkjdcifaaLoadLZ
import Derived.Test.YtpiaeckkjdcifaaPut
import Derived.Test.YtpiaeckkjdcifaaDrawP
namespace Go.Proofs.Ytpiaeckkjdcifaa
open Go
set_option linter.unusedVariables false
set_option linter.unusedSimpArgs false

/-- Loading by an order, step by step: the plan then, and whether all went well. -/
def ldF (b r t : Int) (bs : List BoxD) (p : List Int) : List Int → List Int → List Int × Bool
  | [], now => (now, true)
  | s :: o, now => if s < 0 ∨ (p.length : Int) ≤ s then (now, false) else if (putR b r t bs now s (p.getD s.toNat 0)).2 = true then ldF b r t bs p o (putR b r t bs now s (p.getD s.toNat 0)).1 else (now, false)
def ldR (b r t : Int) (bs : List BoxD) (p o : List Int) : List Int × Bool := ldF b r t bs p o (emptyR b r t)
theorem ldF_step {b r t : Int} {bs : List BoxD} {p o now : List Int} {i : Int} (h0 : 0 ≤ i) (h : i < o.length) : ldF b r t bs p (o.drop i.toNat) now = if o.getD i.toNat 0 < 0 ∨ (p.length : Int) ≤ o.getD i.toNat 0 then (now, false) else if (putR b r t bs now (o.getD i.toNat 0) (p.getD (o.getD i.toNat 0).toNat 0)).2 = true then ldF b r t bs p (o.drop (i + 1).toNat) (putR b r t bs now (o.getD i.toNat 0) (p.getD (o.getD i.toNat 0).toNat 0)).1 else (now, false) := by
  have ha : i.toNat < o.length := by omega
  have e : (i + 1).toNat = i.toNat + 1 := by omega
  have eo : o.getD i.toNat 0 = o[i.toNat] := by rw [List.getD_eq_getElem?_getD, List.getElem?_eq_getElem ha]; rfl
  rw [List.drop_eq_getElem_cons ha, ldF, e, eo]
theorem ldF_end {b r t : Int} {bs : List BoxD} {p o now : List Int} {i : Int} (h : ¬ i < o.length) : ldF b r t bs p (o.drop i.toNat) now = (now, true) := by
  rw [List.drop_eq_nil_of_le (by omega)]; rfl

end Go.Proofs.Ytpiaeckkjdcifaa
