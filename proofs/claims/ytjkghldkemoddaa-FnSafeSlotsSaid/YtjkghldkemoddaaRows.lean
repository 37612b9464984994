/-
  No cell of these rows narrows 'for every input' (looked for: loops, veiled, ifaces, maps, wideKeys, modest, calm, conditions, laid).
  DERIVED. THE GIVEN ROWS OF THIS SEAT. 12 by the template 'for every input the law returns true; each argument reads behind the call as it read before'; 0 by the template 'total and deterministic' (their statements: YtjkghldkemoddaaTotals.lean).
  GIVEN WITH THE SEED: the statements are not yours to turn. If you find one false, say at which input.
  Laid BY PROGRAM, IN A SANDBOX (cutbox-rows.mjs): the forced cells as the released guide's own fill.sh prints them over the translation 3310e38545b0c30e… (all of the seat's roots in one cut). By AI agents, Wed Nov 11 2026. No macro, syntax, notation, axiom, sorry.
-/
import Derived.Test.YtjkghldkemoddaaChecked
import GoSem.Claim
import GoSem.ClaimJoined
import GoSem.ClaimMapViews
import Derived.JoinedTies
import Derived.KernelRfl
namespace Go.Proofs.Ytjkghldkemoddaa
/- THE CELL 'sum', in the pinned program and in every row, IS THE sha256 OF THE DUMP (.gsa) THAT YtjkghldkemoddaaProg.lean LOADS. Nothing in Lean hashes anything: it is a label: what it is worth is what the hold of that sum in a sandbox is worth. -/
noncomputable def Try.pinned : Pinned := { name := "ytjkghldkemoddaa", sum := "3310e38545b0c30e1f7de811af2977ba1cd2ccc58e5d8a25dbdc1758eb2185ad", checked := Try.checked }
namespace Rows
def none {H : Type} : Left H := { results := [], args := [] }

/-- 'laws.FnLoadOf': WHATEVER THE INPUT: true; the input reads as it did. -/
def fnLoadOfSpec : ChangeSpec := { name := "fnLoadOf", fn := fun _ => fun
  | [d] => { results := [.lit (.bool true)], args := [d] }
  | _ => none }
def fnLoadOfRow : OpenClaim := { program := "ytjkghldkemoddaa", sum := "3310e38545b0c30e1f7de811af2977ba1cd2ccc58e5d8a25dbdc1758eb2185ad", func := "loop.example/containerport/laws.FnLoadOf", spec := "fnLoadOf", inPlace := ["internal/bytealg.IndexByteString"], unfollowed := true, recurses := true, apart := false }
def FnLoadOfSaid : Prop := fnLoadOfRow.holds Try.pinned (OpenSpec.ofChange fnLoadOfSpec)

/-- ITS FALSE NEIGHBOUR: 'it returns false'. Refute it at one input. -/
def fnLoadOfWrong : ChangeSpec := { name := "fnLoadOf", fn := fun _ => fun
  | [d] => { results := [.lit (.bool false)], args := [d] }
  | _ => none }
def FnLoadOfWrongFalsely : Prop := fnLoadOfRow.holds Try.pinned (OpenSpec.ofChange fnLoadOfWrong)

/-- 'laws.FnHeelOf': WHATEVER THE INPUT: true; the input reads as it did. -/
def fnHeelOfSpec : ChangeSpec := { name := "fnHeelOf", fn := fun _ => fun
  | [d] => { results := [.lit (.bool true)], args := [d] }
  | _ => none }
def fnHeelOfRow : OpenClaim := { program := "ytjkghldkemoddaa", sum := "3310e38545b0c30e1f7de811af2977ba1cd2ccc58e5d8a25dbdc1758eb2185ad", func := "loop.example/containerport/laws.FnHeelOf", spec := "fnHeelOf", inPlace := ["internal/bytealg.IndexByteString"], unfollowed := true, recurses := true, apart := false }
def FnHeelOfSaid : Prop := fnHeelOfRow.holds Try.pinned (OpenSpec.ofChange fnHeelOfSpec)

/-- ITS FALSE NEIGHBOUR: 'it returns false'. Refute it at one input. -/
def fnHeelOfWrong : ChangeSpec := { name := "fnHeelOf", fn := fun _ => fun
  | [d] => { results := [.lit (.bool false)], args := [d] }
  | _ => none }
def FnHeelOfWrongFalsely : Prop := fnHeelOfRow.holds Try.pinned (OpenSpec.ofChange fnHeelOfWrong)

/-- 'laws.FnRowsBear': WHATEVER THE INPUT: true; the input reads as it did. -/
def fnRowsBearSpec : ChangeSpec := { name := "fnRowsBear", fn := fun _ => fun
  | [d] => { results := [.lit (.bool true)], args := [d] }
  | _ => none }
def fnRowsBearRow : OpenClaim := { program := "ytjkghldkemoddaa", sum := "3310e38545b0c30e1f7de811af2977ba1cd2ccc58e5d8a25dbdc1758eb2185ad", func := "loop.example/containerport/laws.FnRowsBear", spec := "fnRowsBear", inPlace := ["internal/bytealg.IndexByteString"], unfollowed := true, recurses := true, apart := false }
def FnRowsBearSaid : Prop := fnRowsBearRow.holds Try.pinned (OpenSpec.ofChange fnRowsBearSpec)

/-- ITS FALSE NEIGHBOUR: 'it returns false'. Refute it at one input. -/
def fnRowsBearWrong : ChangeSpec := { name := "fnRowsBear", fn := fun _ => fun
  | [d] => { results := [.lit (.bool false)], args := [d] }
  | _ => none }
def FnRowsBearWrongFalsely : Prop := fnRowsBearRow.holds Try.pinned (OpenSpec.ofChange fnRowsBearWrong)

/-- 'laws.FnPlanTake': WHATEVER THE INPUT: true; the input reads as it did. -/
def fnPlanTakeSpec : ChangeSpec := { name := "fnPlanTake", fn := fun _ => fun
  | [d] => { results := [.lit (.bool true)], args := [d] }
  | _ => none }
def fnPlanTakeRow : OpenClaim := { program := "ytjkghldkemoddaa", sum := "3310e38545b0c30e1f7de811af2977ba1cd2ccc58e5d8a25dbdc1758eb2185ad", func := "loop.example/containerport/laws.FnPlanTake", spec := "fnPlanTake", inPlace := ["internal/bytealg.IndexByteString"], unfollowed := true, recurses := true, apart := false }
def FnPlanTakeSaid : Prop := fnPlanTakeRow.holds Try.pinned (OpenSpec.ofChange fnPlanTakeSpec)

/-- ITS FALSE NEIGHBOUR: 'it returns false'. Refute it at one input. -/
def fnPlanTakeWrong : ChangeSpec := { name := "fnPlanTake", fn := fun _ => fun
  | [d] => { results := [.lit (.bool false)], args := [d] }
  | _ => none }
def FnPlanTakeWrongFalsely : Prop := fnPlanTakeRow.holds Try.pinned (OpenSpec.ofChange fnPlanTakeWrong)

/-- 'laws.FnTrimOf': WHATEVER THE INPUT: true; the input reads as it did. -/
def fnTrimOfSpec : ChangeSpec := { name := "fnTrimOf", fn := fun _ => fun
  | [d] => { results := [.lit (.bool true)], args := [d] }
  | _ => none }
def fnTrimOfRow : OpenClaim := { program := "ytjkghldkemoddaa", sum := "3310e38545b0c30e1f7de811af2977ba1cd2ccc58e5d8a25dbdc1758eb2185ad", func := "loop.example/containerport/laws.FnTrimOf", spec := "fnTrimOf", inPlace := ["internal/bytealg.IndexByteString"], unfollowed := true, recurses := true, apart := false }
def FnTrimOfSaid : Prop := fnTrimOfRow.holds Try.pinned (OpenSpec.ofChange fnTrimOfSpec)

/-- ITS FALSE NEIGHBOUR: 'it returns false'. Refute it at one input. -/
def fnTrimOfWrong : ChangeSpec := { name := "fnTrimOf", fn := fun _ => fun
  | [d] => { results := [.lit (.bool false)], args := [d] }
  | _ => none }
def FnTrimOfWrongFalsely : Prop := fnTrimOfRow.holds Try.pinned (OpenSpec.ofChange fnTrimOfWrong)

/-- 'laws.FnPortMoves': WHATEVER THE INPUT: true; the input reads as it did. -/
def fnPortMovesSpec : ChangeSpec := { name := "fnPortMoves", fn := fun _ => fun
  | [d] => { results := [.lit (.bool true)], args := [d] }
  | _ => none }
def fnPortMovesRow : OpenClaim := { program := "ytjkghldkemoddaa", sum := "3310e38545b0c30e1f7de811af2977ba1cd2ccc58e5d8a25dbdc1758eb2185ad", func := "loop.example/containerport/laws.FnPortMoves", spec := "fnPortMoves", inPlace := ["internal/bytealg.IndexByteString"], unfollowed := true, recurses := true, apart := false }
def FnPortMovesSaid : Prop := fnPortMovesRow.holds Try.pinned (OpenSpec.ofChange fnPortMovesSpec)

/-- ITS FALSE NEIGHBOUR: 'it returns false'. Refute it at one input. -/
def fnPortMovesWrong : ChangeSpec := { name := "fnPortMoves", fn := fun _ => fun
  | [d] => { results := [.lit (.bool false)], args := [d] }
  | _ => none }
def FnPortMovesWrongFalsely : Prop := fnPortMovesRow.holds Try.pinned (OpenSpec.ofChange fnPortMovesWrong)

/-- 'laws.FnAfterPort': WHATEVER THE INPUT: true; the input reads as it did. -/
def fnAfterPortSpec : ChangeSpec := { name := "fnAfterPort", fn := fun _ => fun
  | [d] => { results := [.lit (.bool true)], args := [d] }
  | _ => none }
def fnAfterPortRow : OpenClaim := { program := "ytjkghldkemoddaa", sum := "3310e38545b0c30e1f7de811af2977ba1cd2ccc58e5d8a25dbdc1758eb2185ad", func := "loop.example/containerport/laws.FnAfterPort", spec := "fnAfterPort", inPlace := ["internal/bytealg.IndexByteString"], unfollowed := true, recurses := true, apart := false }
def FnAfterPortSaid : Prop := fnAfterPortRow.holds Try.pinned (OpenSpec.ofChange fnAfterPortSpec)

/-- ITS FALSE NEIGHBOUR: 'it returns false'. Refute it at one input. -/
def fnAfterPortWrong : ChangeSpec := { name := "fnAfterPort", fn := fun _ => fun
  | [d] => { results := [.lit (.bool false)], args := [d] }
  | _ => none }
def FnAfterPortWrongFalsely : Prop := fnAfterPortRow.holds Try.pinned (OpenSpec.ofChange fnAfterPortWrong)

/-- 'laws.FnSteady': WHATEVER THE INPUT: true; the input reads as it did. -/
def fnSteadySpec : ChangeSpec := { name := "fnSteady", fn := fun _ => fun
  | [d] => { results := [.lit (.bool true)], args := [d] }
  | _ => none }
def fnSteadyRow : OpenClaim := { program := "ytjkghldkemoddaa", sum := "3310e38545b0c30e1f7de811af2977ba1cd2ccc58e5d8a25dbdc1758eb2185ad", func := "loop.example/containerport/laws.FnSteady", spec := "fnSteady", inPlace := ["internal/bytealg.IndexByteString"], unfollowed := true, recurses := true, apart := false }
def FnSteadySaid : Prop := fnSteadyRow.holds Try.pinned (OpenSpec.ofChange fnSteadySpec)

/-- ITS FALSE NEIGHBOUR: 'it returns false'. Refute it at one input. -/
def fnSteadyWrong : ChangeSpec := { name := "fnSteady", fn := fun _ => fun
  | [d] => { results := [.lit (.bool false)], args := [d] }
  | _ => none }
def FnSteadyWrongFalsely : Prop := fnSteadyRow.holds Try.pinned (OpenSpec.ofChange fnSteadyWrong)

/-- 'laws.FnVoyageMoves': WHATEVER THE INPUT: true; the input reads as it did. -/
def fnVoyageMovesSpec : ChangeSpec := { name := "fnVoyageMoves", fn := fun _ => fun
  | [d] => { results := [.lit (.bool true)], args := [d] }
  | _ => none }
def fnVoyageMovesRow : OpenClaim := { program := "ytjkghldkemoddaa", sum := "3310e38545b0c30e1f7de811af2977ba1cd2ccc58e5d8a25dbdc1758eb2185ad", func := "loop.example/containerport/laws.FnVoyageMoves", spec := "fnVoyageMoves", inPlace := ["internal/bytealg.IndexByteString"], unfollowed := true, recurses := true, apart := false }
def FnVoyageMovesSaid : Prop := fnVoyageMovesRow.holds Try.pinned (OpenSpec.ofChange fnVoyageMovesSpec)

/-- ITS FALSE NEIGHBOUR: 'it returns false'. Refute it at one input. -/
def fnVoyageMovesWrong : ChangeSpec := { name := "fnVoyageMoves", fn := fun _ => fun
  | [d] => { results := [.lit (.bool false)], args := [d] }
  | _ => none }
def FnVoyageMovesWrongFalsely : Prop := fnVoyageMovesRow.holds Try.pinned (OpenSpec.ofChange fnVoyageMovesWrong)

/-- 'laws.FnLoadOk': WHATEVER THE INPUT: true; the input reads as it did. -/
def fnLoadOkSpec : ChangeSpec := { name := "fnLoadOk", fn := fun _ => fun
  | [d] => { results := [.lit (.bool true)], args := [d] }
  | _ => none }
def fnLoadOkRow : OpenClaim := { program := "ytjkghldkemoddaa", sum := "3310e38545b0c30e1f7de811af2977ba1cd2ccc58e5d8a25dbdc1758eb2185ad", func := "loop.example/containerport/laws.FnLoadOk", spec := "fnLoadOk", inPlace := ["internal/bytealg.IndexByteString"], unfollowed := true, recurses := true, apart := false }
def FnLoadOkSaid : Prop := fnLoadOkRow.holds Try.pinned (OpenSpec.ofChange fnLoadOkSpec)

/-- ITS FALSE NEIGHBOUR: 'it returns false'. Refute it at one input. -/
def fnLoadOkWrong : ChangeSpec := { name := "fnLoadOk", fn := fun _ => fun
  | [d] => { results := [.lit (.bool false)], args := [d] }
  | _ => none }
def FnLoadOkWrongFalsely : Prop := fnLoadOkRow.holds Try.pinned (OpenSpec.ofChange fnLoadOkWrong)

/-- 'laws.FnTooNear': WHATEVER THE INPUT: true; the input reads as it did. -/
def fnTooNearSpec : ChangeSpec := { name := "fnTooNear", fn := fun _ => fun
  | [d] => { results := [.lit (.bool true)], args := [d] }
  | _ => none }
def fnTooNearRow : OpenClaim := { program := "ytjkghldkemoddaa", sum := "3310e38545b0c30e1f7de811af2977ba1cd2ccc58e5d8a25dbdc1758eb2185ad", func := "loop.example/containerport/laws.FnTooNear", spec := "fnTooNear", inPlace := ["internal/bytealg.IndexByteString"], unfollowed := true, recurses := true, apart := false }
def FnTooNearSaid : Prop := fnTooNearRow.holds Try.pinned (OpenSpec.ofChange fnTooNearSpec)

/-- ITS FALSE NEIGHBOUR: 'it returns false'. Refute it at one input. -/
def fnTooNearWrong : ChangeSpec := { name := "fnTooNear", fn := fun _ => fun
  | [d] => { results := [.lit (.bool false)], args := [d] }
  | _ => none }
def FnTooNearWrongFalsely : Prop := fnTooNearRow.holds Try.pinned (OpenSpec.ofChange fnTooNearWrong)

/-- 'laws.FnSafeSlots': WHATEVER THE INPUT: true; the input reads as it did. -/
def fnSafeSlotsSpec : ChangeSpec := { name := "fnSafeSlots", fn := fun _ => fun
  | [d] => { results := [.lit (.bool true)], args := [d] }
  | _ => none }
def fnSafeSlotsRow : OpenClaim := { program := "ytjkghldkemoddaa", sum := "3310e38545b0c30e1f7de811af2977ba1cd2ccc58e5d8a25dbdc1758eb2185ad", func := "loop.example/containerport/laws.FnSafeSlots", spec := "fnSafeSlots", inPlace := ["internal/bytealg.IndexByteString"], unfollowed := true, recurses := true, apart := false }
def FnSafeSlotsSaid : Prop := fnSafeSlotsRow.holds Try.pinned (OpenSpec.ofChange fnSafeSlotsSpec)

/-- ITS FALSE NEIGHBOUR: 'it returns false'. Refute it at one input. -/
def fnSafeSlotsWrong : ChangeSpec := { name := "fnSafeSlots", fn := fun _ => fun
  | [d] => { results := [.lit (.bool false)], args := [d] }
  | _ => none }
def FnSafeSlotsWrongFalsely : Prop := fnSafeSlotsRow.holds Try.pinned (OpenSpec.ofChange fnSafeSlotsWrong)

/- THE SECOND FORM. 'bulk': how many values and letters a reading holds, each counted each time it is reached (what is shared counts as often as it is met; a slice's spare places count too). A statement '..UptoSaid' is the law's where the arguments, and the package variables that the reading takes, are together of bulk at most 1048576: NARROWER than '..Said'. Prove '..Said' where nothing that the law and all that it calls make is longer than what came in: it says more and counts as full. Else prove '..UptoSaid'. A law counts once. -/
mutual
def uptoBulk {H : Type} : DataW H → Nat
  | .lit (.string bytes) => bytes.length + 1
  | .lit _ => 1
  | .nil => 1
  | .ptr d => uptoBulk d + 1
  | .slice elems spare => uptoBulkAll elems + uptoBulkAll spare + 1
  | .agg parts => uptoBulkAll parts + 1
  | .iface _ d => uptoBulk d + 1
  | .map entries => uptoBulkEntries entries + 1
  | .held _ => 1
def uptoBulkAll {H : Type} : List (DataW H) → Nat
  | [] => 0
  | d :: r => uptoBulk d + uptoBulkAll r
def uptoBulkEntries {H : Type} : List (Lit × DataW H) → Nat
  | [] => 0
  | x :: r => uptoBulkEntry x + uptoBulkEntries r
def uptoBulkEntry {H : Type} : Lit × DataW H → Nat
  | (.string bytes, d) => bytes.length + uptoBulk d + 1
  | (_, d) => uptoBulk d + 1
 end
def uptoSmall : (H : Type) → List (DataW H) → Bool := fun _ ds => decide (uptoBulkAll ds ≤ 1048576)
def OpenSpec.upto (s : _root_.Go.ChangeSpec) : _root_.Go.OpenSpec := { _root_.Go.OpenSpec.ofChange s with cond := some uptoSmall }

/-- 'laws.FnLoadOf', WHERE WHAT IT READS IS OF BULK AT MOST 1048576: true; the input reads as it did. -/
def fnLoadOfUptoRow : OpenClaim := { program := "ytjkghldkemoddaa", sum := "3310e38545b0c30e1f7de811af2977ba1cd2ccc58e5d8a25dbdc1758eb2185ad", func := "loop.example/containerport/laws.FnLoadOf", spec := "fnLoadOf", inPlace := ["internal/bytealg.IndexByteString"], unfollowed := true, recurses := true, apart := false, narrowed := true }
def FnLoadOfUptoSaid : Prop := fnLoadOfUptoRow.holds Try.pinned (OpenSpec.upto fnLoadOfSpec)

/-- 'laws.FnHeelOf', WHERE WHAT IT READS IS OF BULK AT MOST 1048576: true; the input reads as it did. -/
def fnHeelOfUptoRow : OpenClaim := { program := "ytjkghldkemoddaa", sum := "3310e38545b0c30e1f7de811af2977ba1cd2ccc58e5d8a25dbdc1758eb2185ad", func := "loop.example/containerport/laws.FnHeelOf", spec := "fnHeelOf", inPlace := ["internal/bytealg.IndexByteString"], unfollowed := true, recurses := true, apart := false, narrowed := true }
def FnHeelOfUptoSaid : Prop := fnHeelOfUptoRow.holds Try.pinned (OpenSpec.upto fnHeelOfSpec)

/-- 'laws.FnRowsBear', WHERE WHAT IT READS IS OF BULK AT MOST 1048576: true; the input reads as it did. -/
def fnRowsBearUptoRow : OpenClaim := { program := "ytjkghldkemoddaa", sum := "3310e38545b0c30e1f7de811af2977ba1cd2ccc58e5d8a25dbdc1758eb2185ad", func := "loop.example/containerport/laws.FnRowsBear", spec := "fnRowsBear", inPlace := ["internal/bytealg.IndexByteString"], unfollowed := true, recurses := true, apart := false, narrowed := true }
def FnRowsBearUptoSaid : Prop := fnRowsBearUptoRow.holds Try.pinned (OpenSpec.upto fnRowsBearSpec)

/-- 'laws.FnPlanTake', WHERE WHAT IT READS IS OF BULK AT MOST 1048576: true; the input reads as it did. -/
def fnPlanTakeUptoRow : OpenClaim := { program := "ytjkghldkemoddaa", sum := "3310e38545b0c30e1f7de811af2977ba1cd2ccc58e5d8a25dbdc1758eb2185ad", func := "loop.example/containerport/laws.FnPlanTake", spec := "fnPlanTake", inPlace := ["internal/bytealg.IndexByteString"], unfollowed := true, recurses := true, apart := false, narrowed := true }
def FnPlanTakeUptoSaid : Prop := fnPlanTakeUptoRow.holds Try.pinned (OpenSpec.upto fnPlanTakeSpec)

/-- 'laws.FnTrimOf', WHERE WHAT IT READS IS OF BULK AT MOST 1048576: true; the input reads as it did. -/
def fnTrimOfUptoRow : OpenClaim := { program := "ytjkghldkemoddaa", sum := "3310e38545b0c30e1f7de811af2977ba1cd2ccc58e5d8a25dbdc1758eb2185ad", func := "loop.example/containerport/laws.FnTrimOf", spec := "fnTrimOf", inPlace := ["internal/bytealg.IndexByteString"], unfollowed := true, recurses := true, apart := false, narrowed := true }
def FnTrimOfUptoSaid : Prop := fnTrimOfUptoRow.holds Try.pinned (OpenSpec.upto fnTrimOfSpec)

/-- 'laws.FnPortMoves', WHERE WHAT IT READS IS OF BULK AT MOST 1048576: true; the input reads as it did. -/
def fnPortMovesUptoRow : OpenClaim := { program := "ytjkghldkemoddaa", sum := "3310e38545b0c30e1f7de811af2977ba1cd2ccc58e5d8a25dbdc1758eb2185ad", func := "loop.example/containerport/laws.FnPortMoves", spec := "fnPortMoves", inPlace := ["internal/bytealg.IndexByteString"], unfollowed := true, recurses := true, apart := false, narrowed := true }
def FnPortMovesUptoSaid : Prop := fnPortMovesUptoRow.holds Try.pinned (OpenSpec.upto fnPortMovesSpec)

/-- 'laws.FnAfterPort', WHERE WHAT IT READS IS OF BULK AT MOST 1048576: true; the input reads as it did. -/
def fnAfterPortUptoRow : OpenClaim := { program := "ytjkghldkemoddaa", sum := "3310e38545b0c30e1f7de811af2977ba1cd2ccc58e5d8a25dbdc1758eb2185ad", func := "loop.example/containerport/laws.FnAfterPort", spec := "fnAfterPort", inPlace := ["internal/bytealg.IndexByteString"], unfollowed := true, recurses := true, apart := false, narrowed := true }
def FnAfterPortUptoSaid : Prop := fnAfterPortUptoRow.holds Try.pinned (OpenSpec.upto fnAfterPortSpec)

/-- 'laws.FnSteady', WHERE WHAT IT READS IS OF BULK AT MOST 1048576: true; the input reads as it did. -/
def fnSteadyUptoRow : OpenClaim := { program := "ytjkghldkemoddaa", sum := "3310e38545b0c30e1f7de811af2977ba1cd2ccc58e5d8a25dbdc1758eb2185ad", func := "loop.example/containerport/laws.FnSteady", spec := "fnSteady", inPlace := ["internal/bytealg.IndexByteString"], unfollowed := true, recurses := true, apart := false, narrowed := true }
def FnSteadyUptoSaid : Prop := fnSteadyUptoRow.holds Try.pinned (OpenSpec.upto fnSteadySpec)

/-- 'laws.FnVoyageMoves', WHERE WHAT IT READS IS OF BULK AT MOST 1048576: true; the input reads as it did. -/
def fnVoyageMovesUptoRow : OpenClaim := { program := "ytjkghldkemoddaa", sum := "3310e38545b0c30e1f7de811af2977ba1cd2ccc58e5d8a25dbdc1758eb2185ad", func := "loop.example/containerport/laws.FnVoyageMoves", spec := "fnVoyageMoves", inPlace := ["internal/bytealg.IndexByteString"], unfollowed := true, recurses := true, apart := false, narrowed := true }
def FnVoyageMovesUptoSaid : Prop := fnVoyageMovesUptoRow.holds Try.pinned (OpenSpec.upto fnVoyageMovesSpec)

/-- 'laws.FnLoadOk', WHERE WHAT IT READS IS OF BULK AT MOST 1048576: true; the input reads as it did. -/
def fnLoadOkUptoRow : OpenClaim := { program := "ytjkghldkemoddaa", sum := "3310e38545b0c30e1f7de811af2977ba1cd2ccc58e5d8a25dbdc1758eb2185ad", func := "loop.example/containerport/laws.FnLoadOk", spec := "fnLoadOk", inPlace := ["internal/bytealg.IndexByteString"], unfollowed := true, recurses := true, apart := false, narrowed := true }
def FnLoadOkUptoSaid : Prop := fnLoadOkUptoRow.holds Try.pinned (OpenSpec.upto fnLoadOkSpec)

/-- 'laws.FnTooNear', WHERE WHAT IT READS IS OF BULK AT MOST 1048576: true; the input reads as it did. -/
def fnTooNearUptoRow : OpenClaim := { program := "ytjkghldkemoddaa", sum := "3310e38545b0c30e1f7de811af2977ba1cd2ccc58e5d8a25dbdc1758eb2185ad", func := "loop.example/containerport/laws.FnTooNear", spec := "fnTooNear", inPlace := ["internal/bytealg.IndexByteString"], unfollowed := true, recurses := true, apart := false, narrowed := true }
def FnTooNearUptoSaid : Prop := fnTooNearUptoRow.holds Try.pinned (OpenSpec.upto fnTooNearSpec)

/-- 'laws.FnSafeSlots', WHERE WHAT IT READS IS OF BULK AT MOST 1048576: true; the input reads as it did. -/
def fnSafeSlotsUptoRow : OpenClaim := { program := "ytjkghldkemoddaa", sum := "3310e38545b0c30e1f7de811af2977ba1cd2ccc58e5d8a25dbdc1758eb2185ad", func := "loop.example/containerport/laws.FnSafeSlots", spec := "fnSafeSlots", inPlace := ["internal/bytealg.IndexByteString"], unfollowed := true, recurses := true, apart := false, narrowed := true }
def FnSafeSlotsUptoSaid : Prop := fnSafeSlotsUptoRow.holds Try.pinned (OpenSpec.upto fnSafeSlotsSpec)

end Rows
end Go.Proofs.Ytjkghldkemoddaa
