/-
  No cell of these rows narrows 'for every input' (looked for: loops, veiled, ifaces, maps, wideKeys, modest, calm, conditions, laid).
  DERIVED. THE GIVEN ROWS OF THIS SEAT. 12 by the template 'for every input the law returns true; each argument reads behind the call as it read before'; 0 by the template 'total and deterministic' (their statements: YtehhmjnjogckeaaTotals.lean).
  GIVEN WITH THE SEED: the statements are not yours to turn. If you find one false, say at which input.
  Laid BY PROGRAM, IN A SANDBOX (cutbox-rows.mjs): the forced cells as the released guide's own fill.sh prints them over the translation 606988ce6f5de492… (all of the seat's roots in one cut). By AI agents, Wed Nov 11 2026. No macro, syntax, notation, axiom, sorry.
-/
import Derived.Test.YtehhmjnjogckeaaChecked
import GoSem.Claim
import GoSem.ClaimJoined
import GoSem.ClaimMapViews
import Derived.JoinedTies
import Derived.KernelRfl
namespace Go.Proofs.Ytehhmjnjogckeaa
/- THE CELL 'sum', in the pinned program and in every row, IS THE sha256 OF THE DUMP (.gsa) THAT YtehhmjnjogckeaaProg.lean LOADS. Nothing in Lean hashes anything: it is a label: what it is worth is what the hold of that sum in a sandbox is worth. -/
noncomputable def Try.pinned : Pinned := { name := "ytehhmjnjogckeaa", sum := "606988ce6f5de49240e5d2399f15c1130e75bb59470de753e39245d8e46a3f64", checked := Try.checked }
namespace Rows
def none {H : Type} : Left H := { results := [], args := [] }

/-- 'laws.FnExactSteady': WHATEVER THE INPUT: true; the input reads as it did. -/
def fnExactSteadySpec : ChangeSpec := { name := "fnExactSteady", fn := fun _ => fun
  | [d1, d2, d3, d4, d5] => { results := [.lit (.bool true)], args := [d1, d2, d3, d4, d5] }
  | _ => none }
def fnExactSteadyRow : OpenClaim := { program := "ytehhmjnjogckeaa", sum := "606988ce6f5de49240e5d2399f15c1130e75bb59470de753e39245d8e46a3f64", func := "loop.example/containerport/laws.FnExactSteady", spec := "fnExactSteady", unfollowed := true, recurses := true, apart := false }
def FnExactSteadySaid : Prop := fnExactSteadyRow.holds Try.pinned (OpenSpec.ofChange fnExactSteadySpec)

/-- ITS FALSE NEIGHBOUR: 'it returns false'. Refute it at one input. -/
def fnExactSteadyWrong : ChangeSpec := { name := "fnExactSteady", fn := fun _ => fun
  | [d1, d2, d3, d4, d5] => { results := [.lit (.bool false)], args := [d1, d2, d3, d4, d5] }
  | _ => none }
def FnExactSteadyWrongFalsely : Prop := fnExactSteadyRow.holds Try.pinned (OpenSpec.ofChange fnExactSteadyWrong)

/-- 'laws.FnExactWorstHeel': WHATEVER THE INPUT: true; the input reads as it did. -/
def fnExactWorstHeelSpec : ChangeSpec := { name := "fnExactWorstHeel", fn := fun _ => fun
  | [d1, d2, d3, d4] => { results := [.lit (.bool true)], args := [d1, d2, d3, d4] }
  | _ => none }
def fnExactWorstHeelRow : OpenClaim := { program := "ytehhmjnjogckeaa", sum := "606988ce6f5de49240e5d2399f15c1130e75bb59470de753e39245d8e46a3f64", func := "loop.example/containerport/laws.FnExactWorstHeel", spec := "fnExactWorstHeel", unfollowed := true, recurses := true, apart := false }
def FnExactWorstHeelSaid : Prop := fnExactWorstHeelRow.holds Try.pinned (OpenSpec.ofChange fnExactWorstHeelSpec)

/-- ITS FALSE NEIGHBOUR: 'it returns false'. Refute it at one input. -/
def fnExactWorstHeelWrong : ChangeSpec := { name := "fnExactWorstHeel", fn := fun _ => fun
  | [d1, d2, d3, d4] => { results := [.lit (.bool false)], args := [d1, d2, d3, d4] }
  | _ => none }
def FnExactWorstHeelWrongFalsely : Prop := fnExactWorstHeelRow.holds Try.pinned (OpenSpec.ofChange fnExactWorstHeelWrong)

/-- 'laws.FnExactVoyageMoves': WHATEVER THE INPUT: true; the input reads as it did. -/
def fnExactVoyageMovesSpec : ChangeSpec := { name := "fnExactVoyageMoves", fn := fun _ => fun
  | [d1, d2, d3] => { results := [.lit (.bool true)], args := [d1, d2, d3] }
  | _ => none }
def fnExactVoyageMovesRow : OpenClaim := { program := "ytehhmjnjogckeaa", sum := "606988ce6f5de49240e5d2399f15c1130e75bb59470de753e39245d8e46a3f64", func := "loop.example/containerport/laws.FnExactVoyageMoves", spec := "fnExactVoyageMoves", unfollowed := true, recurses := true, apart := false }
def FnExactVoyageMovesSaid : Prop := fnExactVoyageMovesRow.holds Try.pinned (OpenSpec.ofChange fnExactVoyageMovesSpec)

/-- ITS FALSE NEIGHBOUR: 'it returns false'. Refute it at one input. -/
def fnExactVoyageMovesWrong : ChangeSpec := { name := "fnExactVoyageMoves", fn := fun _ => fun
  | [d1, d2, d3] => { results := [.lit (.bool false)], args := [d1, d2, d3] }
  | _ => none }
def FnExactVoyageMovesWrongFalsely : Prop := fnExactVoyageMovesRow.holds Try.pinned (OpenSpec.ofChange fnExactVoyageMovesWrong)

/-- 'laws.FnExactSafeSlots': WHATEVER THE INPUT: true; the input reads as it did. -/
def fnExactSafeSlotsSpec : ChangeSpec := { name := "fnExactSafeSlots", fn := fun _ => fun
  | [d1, d2, d3, d4] => { results := [.lit (.bool true)], args := [d1, d2, d3, d4] }
  | _ => none }
def fnExactSafeSlotsRow : OpenClaim := { program := "ytehhmjnjogckeaa", sum := "606988ce6f5de49240e5d2399f15c1130e75bb59470de753e39245d8e46a3f64", func := "loop.example/containerport/laws.FnExactSafeSlots", spec := "fnExactSafeSlots", unfollowed := true, recurses := true, apart := false }
def FnExactSafeSlotsSaid : Prop := fnExactSafeSlotsRow.holds Try.pinned (OpenSpec.ofChange fnExactSafeSlotsSpec)

/-- ITS FALSE NEIGHBOUR: 'it returns false'. Refute it at one input. -/
def fnExactSafeSlotsWrong : ChangeSpec := { name := "fnExactSafeSlots", fn := fun _ => fun
  | [d1, d2, d3, d4] => { results := [.lit (.bool false)], args := [d1, d2, d3, d4] }
  | _ => none }
def FnExactSafeSlotsWrongFalsely : Prop := fnExactSafeSlotsRow.holds Try.pinned (OpenSpec.ofChange fnExactSafeSlotsWrong)

/-- 'laws.FnExactTooNear': WHATEVER THE INPUT: true; the input reads as it did. -/
def fnExactTooNearSpec : ChangeSpec := { name := "fnExactTooNear", fn := fun _ => fun
  | [d1, d2, d3] => { results := [.lit (.bool true)], args := [d1, d2, d3] }
  | _ => none }
def fnExactTooNearRow : OpenClaim := { program := "ytehhmjnjogckeaa", sum := "606988ce6f5de49240e5d2399f15c1130e75bb59470de753e39245d8e46a3f64", func := "loop.example/containerport/laws.FnExactTooNear", spec := "fnExactTooNear", unfollowed := true, recurses := true, apart := false }
def FnExactTooNearSaid : Prop := fnExactTooNearRow.holds Try.pinned (OpenSpec.ofChange fnExactTooNearSpec)

/-- ITS FALSE NEIGHBOUR: 'it returns false'. Refute it at one input. -/
def fnExactTooNearWrong : ChangeSpec := { name := "fnExactTooNear", fn := fun _ => fun
  | [d1, d2, d3] => { results := [.lit (.bool false)], args := [d1, d2, d3] }
  | _ => none }
def FnExactTooNearWrongFalsely : Prop := fnExactTooNearRow.holds Try.pinned (OpenSpec.ofChange fnExactTooNearWrong)

/-- 'laws.FnPlanFind': WHATEVER THE INPUT: true; the input reads as it did. -/
def fnPlanFindSpec : ChangeSpec := { name := "fnPlanFind", fn := fun _ => fun
  | [d] => { results := [.lit (.bool true)], args := [d] }
  | _ => none }
def fnPlanFindRow : OpenClaim := { program := "ytehhmjnjogckeaa", sum := "606988ce6f5de49240e5d2399f15c1130e75bb59470de753e39245d8e46a3f64", func := "loop.example/containerport/laws.FnPlanFind", spec := "fnPlanFind", inPlace := ["internal/bytealg.IndexByteString"], unfollowed := true, recurses := true, apart := false }
def FnPlanFindSaid : Prop := fnPlanFindRow.holds Try.pinned (OpenSpec.ofChange fnPlanFindSpec)

/-- ITS FALSE NEIGHBOUR: 'it returns false'. Refute it at one input. -/
def fnPlanFindWrong : ChangeSpec := { name := "fnPlanFind", fn := fun _ => fun
  | [d] => { results := [.lit (.bool false)], args := [d] }
  | _ => none }
def FnPlanFindWrongFalsely : Prop := fnPlanFindRow.holds Try.pinned (OpenSpec.ofChange fnPlanFindWrong)

/-- 'laws.FnPlanIds': WHATEVER THE INPUT: true; the input reads as it did. -/
def fnPlanIdsSpec : ChangeSpec := { name := "fnPlanIds", fn := fun _ => fun
  | [d] => { results := [.lit (.bool true)], args := [d] }
  | _ => none }
def fnPlanIdsRow : OpenClaim := { program := "ytehhmjnjogckeaa", sum := "606988ce6f5de49240e5d2399f15c1130e75bb59470de753e39245d8e46a3f64", func := "loop.example/containerport/laws.FnPlanIds", spec := "fnPlanIds", inPlace := ["internal/bytealg.IndexByteString"], unfollowed := true, recurses := true, apart := false }
def FnPlanIdsSaid : Prop := fnPlanIdsRow.holds Try.pinned (OpenSpec.ofChange fnPlanIdsSpec)

/-- ITS FALSE NEIGHBOUR: 'it returns false'. Refute it at one input. -/
def fnPlanIdsWrong : ChangeSpec := { name := "fnPlanIds", fn := fun _ => fun
  | [d] => { results := [.lit (.bool false)], args := [d] }
  | _ => none }
def FnPlanIdsWrongFalsely : Prop := fnPlanIdsRow.holds Try.pinned (OpenSpec.ofChange fnPlanIdsWrong)

/-- 'laws.FnRowWeights': WHATEVER THE INPUT: true; the input reads as it did. -/
def fnRowWeightsSpec : ChangeSpec := { name := "fnRowWeights", fn := fun _ => fun
  | [d] => { results := [.lit (.bool true)], args := [d] }
  | _ => none }
def fnRowWeightsRow : OpenClaim := { program := "ytehhmjnjogckeaa", sum := "606988ce6f5de49240e5d2399f15c1130e75bb59470de753e39245d8e46a3f64", func := "loop.example/containerport/laws.FnRowWeights", spec := "fnRowWeights", inPlace := ["internal/bytealg.IndexByteString"], unfollowed := true, recurses := true, apart := false }
def FnRowWeightsSaid : Prop := fnRowWeightsRow.holds Try.pinned (OpenSpec.ofChange fnRowWeightsSpec)

/-- ITS FALSE NEIGHBOUR: 'it returns false'. Refute it at one input. -/
def fnRowWeightsWrong : ChangeSpec := { name := "fnRowWeights", fn := fun _ => fun
  | [d] => { results := [.lit (.bool false)], args := [d] }
  | _ => none }
def FnRowWeightsWrongFalsely : Prop := fnRowWeightsRow.holds Try.pinned (OpenSpec.ofChange fnRowWeightsWrong)

/-- 'laws.FnOnLighter': WHATEVER THE INPUT: true; the input reads as it did. -/
def fnOnLighterSpec : ChangeSpec := { name := "fnOnLighter", fn := fun _ => fun
  | [d] => { results := [.lit (.bool true)], args := [d] }
  | _ => none }
def fnOnLighterRow : OpenClaim := { program := "ytehhmjnjogckeaa", sum := "606988ce6f5de49240e5d2399f15c1130e75bb59470de753e39245d8e46a3f64", func := "loop.example/containerport/laws.FnOnLighter", spec := "fnOnLighter", inPlace := ["internal/bytealg.IndexByteString"], unfollowed := true, recurses := true, apart := false }
def FnOnLighterSaid : Prop := fnOnLighterRow.holds Try.pinned (OpenSpec.ofChange fnOnLighterSpec)

/-- ITS FALSE NEIGHBOUR: 'it returns false'. Refute it at one input. -/
def fnOnLighterWrong : ChangeSpec := { name := "fnOnLighter", fn := fun _ => fun
  | [d] => { results := [.lit (.bool false)], args := [d] }
  | _ => none }
def FnOnLighterWrongFalsely : Prop := fnOnLighterRow.holds Try.pinned (OpenSpec.ofChange fnOnLighterWrong)

/-- 'laws.FnPlanNext': WHATEVER THE INPUT: true; the input reads as it did. -/
def fnPlanNextSpec : ChangeSpec := { name := "fnPlanNext", fn := fun _ => fun
  | [d] => { results := [.lit (.bool true)], args := [d] }
  | _ => none }
def fnPlanNextRow : OpenClaim := { program := "ytehhmjnjogckeaa", sum := "606988ce6f5de49240e5d2399f15c1130e75bb59470de753e39245d8e46a3f64", func := "loop.example/containerport/laws.FnPlanNext", spec := "fnPlanNext", inPlace := ["internal/bytealg.IndexByteString"], unfollowed := true, recurses := true, apart := false }
def FnPlanNextSaid : Prop := fnPlanNextRow.holds Try.pinned (OpenSpec.ofChange fnPlanNextSpec)

/-- ITS FALSE NEIGHBOUR: 'it returns false'. Refute it at one input. -/
def fnPlanNextWrong : ChangeSpec := { name := "fnPlanNext", fn := fun _ => fun
  | [d] => { results := [.lit (.bool false)], args := [d] }
  | _ => none }
def FnPlanNextWrongFalsely : Prop := fnPlanNextRow.holds Try.pinned (OpenSpec.ofChange fnPlanNextWrong)

/-- 'laws.FnPlanPut': WHATEVER THE INPUT: true; the input reads as it did. -/
def fnPlanPutSpec : ChangeSpec := { name := "fnPlanPut", fn := fun _ => fun
  | [d] => { results := [.lit (.bool true)], args := [d] }
  | _ => none }
def fnPlanPutRow : OpenClaim := { program := "ytehhmjnjogckeaa", sum := "606988ce6f5de49240e5d2399f15c1130e75bb59470de753e39245d8e46a3f64", func := "loop.example/containerport/laws.FnPlanPut", spec := "fnPlanPut", inPlace := ["internal/bytealg.IndexByteString"], unfollowed := true, recurses := true, apart := false }
def FnPlanPutSaid : Prop := fnPlanPutRow.holds Try.pinned (OpenSpec.ofChange fnPlanPutSpec)

/-- ITS FALSE NEIGHBOUR: 'it returns false'. Refute it at one input. -/
def fnPlanPutWrong : ChangeSpec := { name := "fnPlanPut", fn := fun _ => fun
  | [d] => { results := [.lit (.bool false)], args := [d] }
  | _ => none }
def FnPlanPutWrongFalsely : Prop := fnPlanPutRow.holds Try.pinned (OpenSpec.ofChange fnPlanPutWrong)

/-- 'laws.FnOverstows': WHATEVER THE INPUT: true; the input reads as it did. -/
def fnOverstowsSpec : ChangeSpec := { name := "fnOverstows", fn := fun _ => fun
  | [d] => { results := [.lit (.bool true)], args := [d] }
  | _ => none }
def fnOverstowsRow : OpenClaim := { program := "ytehhmjnjogckeaa", sum := "606988ce6f5de49240e5d2399f15c1130e75bb59470de753e39245d8e46a3f64", func := "loop.example/containerport/laws.FnOverstows", spec := "fnOverstows", inPlace := ["internal/bytealg.IndexByteString"], unfollowed := true, recurses := true, apart := false }
def FnOverstowsSaid : Prop := fnOverstowsRow.holds Try.pinned (OpenSpec.ofChange fnOverstowsSpec)

/-- ITS FALSE NEIGHBOUR: 'it returns false'. Refute it at one input. -/
def fnOverstowsWrong : ChangeSpec := { name := "fnOverstows", fn := fun _ => fun
  | [d] => { results := [.lit (.bool false)], args := [d] }
  | _ => none }
def FnOverstowsWrongFalsely : Prop := fnOverstowsRow.holds Try.pinned (OpenSpec.ofChange fnOverstowsWrong)

/- THE SECOND FORM. 'bulk': how many values and letters a reading holds, each counted each time it is reached (what is shared counts as often as it is met; a slice's spare places count too). A statement '..UptoSaid' is the law's where the arguments, and the package variables that the reading takes, are together of bulk at most 1048576: NARROWER than '..Said'. Prove '..Said' where nothing that the law and all that it calls make is longer than what came in: it says more and counts as full. Else prove '..UptoSaid'. A law counts once. -/
mutual
def uptoBulk {H : Type} : DataW H → Nat
  | .lit (.string bytes) => bytes.length + 1
  | .lit _ => 1
  | .nil => 1
  | .ptr d => uptoBulk d + 1
  | .slice elems spare => uptoBulkAll elems + uptoBulkAll spare + 1
  | .agg parts => uptoBulkAll parts + 1
  | .iface _ d => uptoBulk d + 1
  | .map entries => uptoBulkEntries entries + 1
  | .held _ => 1
def uptoBulkAll {H : Type} : List (DataW H) → Nat
  | [] => 0
  | d :: r => uptoBulk d + uptoBulkAll r
def uptoBulkEntries {H : Type} : List (Lit × DataW H) → Nat
  | [] => 0
  | x :: r => uptoBulkEntry x + uptoBulkEntries r
def uptoBulkEntry {H : Type} : Lit × DataW H → Nat
  | (.string bytes, d) => bytes.length + uptoBulk d + 1
  | (_, d) => uptoBulk d + 1
 end
def uptoSmall : (H : Type) → List (DataW H) → Bool := fun _ ds => decide (uptoBulkAll ds ≤ 1048576)
def OpenSpec.upto (s : _root_.Go.ChangeSpec) : _root_.Go.OpenSpec := { _root_.Go.OpenSpec.ofChange s with cond := some uptoSmall }

/-- 'laws.FnExactSteady', WHERE WHAT IT READS IS OF BULK AT MOST 1048576: true; the input reads as it did. -/
def fnExactSteadyUptoRow : OpenClaim := { program := "ytehhmjnjogckeaa", sum := "606988ce6f5de49240e5d2399f15c1130e75bb59470de753e39245d8e46a3f64", func := "loop.example/containerport/laws.FnExactSteady", spec := "fnExactSteady", unfollowed := true, recurses := true, apart := false, narrowed := true }
def FnExactSteadyUptoSaid : Prop := fnExactSteadyUptoRow.holds Try.pinned (OpenSpec.upto fnExactSteadySpec)

/-- 'laws.FnExactWorstHeel', WHERE WHAT IT READS IS OF BULK AT MOST 1048576: true; the input reads as it did. -/
def fnExactWorstHeelUptoRow : OpenClaim := { program := "ytehhmjnjogckeaa", sum := "606988ce6f5de49240e5d2399f15c1130e75bb59470de753e39245d8e46a3f64", func := "loop.example/containerport/laws.FnExactWorstHeel", spec := "fnExactWorstHeel", unfollowed := true, recurses := true, apart := false, narrowed := true }
def FnExactWorstHeelUptoSaid : Prop := fnExactWorstHeelUptoRow.holds Try.pinned (OpenSpec.upto fnExactWorstHeelSpec)

/-- 'laws.FnExactVoyageMoves', WHERE WHAT IT READS IS OF BULK AT MOST 1048576: true; the input reads as it did. -/
def fnExactVoyageMovesUptoRow : OpenClaim := { program := "ytehhmjnjogckeaa", sum := "606988ce6f5de49240e5d2399f15c1130e75bb59470de753e39245d8e46a3f64", func := "loop.example/containerport/laws.FnExactVoyageMoves", spec := "fnExactVoyageMoves", unfollowed := true, recurses := true, apart := false, narrowed := true }
def FnExactVoyageMovesUptoSaid : Prop := fnExactVoyageMovesUptoRow.holds Try.pinned (OpenSpec.upto fnExactVoyageMovesSpec)

/-- 'laws.FnExactSafeSlots', WHERE WHAT IT READS IS OF BULK AT MOST 1048576: true; the input reads as it did. -/
def fnExactSafeSlotsUptoRow : OpenClaim := { program := "ytehhmjnjogckeaa", sum := "606988ce6f5de49240e5d2399f15c1130e75bb59470de753e39245d8e46a3f64", func := "loop.example/containerport/laws.FnExactSafeSlots", spec := "fnExactSafeSlots", unfollowed := true, recurses := true, apart := false, narrowed := true }
def FnExactSafeSlotsUptoSaid : Prop := fnExactSafeSlotsUptoRow.holds Try.pinned (OpenSpec.upto fnExactSafeSlotsSpec)

/-- 'laws.FnExactTooNear', WHERE WHAT IT READS IS OF BULK AT MOST 1048576: true; the input reads as it did. -/
def fnExactTooNearUptoRow : OpenClaim := { program := "ytehhmjnjogckeaa", sum := "606988ce6f5de49240e5d2399f15c1130e75bb59470de753e39245d8e46a3f64", func := "loop.example/containerport/laws.FnExactTooNear", spec := "fnExactTooNear", unfollowed := true, recurses := true, apart := false, narrowed := true }
def FnExactTooNearUptoSaid : Prop := fnExactTooNearUptoRow.holds Try.pinned (OpenSpec.upto fnExactTooNearSpec)

/-- 'laws.FnPlanFind', WHERE WHAT IT READS IS OF BULK AT MOST 1048576: true; the input reads as it did. -/
def fnPlanFindUptoRow : OpenClaim := { program := "ytehhmjnjogckeaa", sum := "606988ce6f5de49240e5d2399f15c1130e75bb59470de753e39245d8e46a3f64", func := "loop.example/containerport/laws.FnPlanFind", spec := "fnPlanFind", inPlace := ["internal/bytealg.IndexByteString"], unfollowed := true, recurses := true, apart := false, narrowed := true }
def FnPlanFindUptoSaid : Prop := fnPlanFindUptoRow.holds Try.pinned (OpenSpec.upto fnPlanFindSpec)

/-- 'laws.FnPlanIds', WHERE WHAT IT READS IS OF BULK AT MOST 1048576: true; the input reads as it did. -/
def fnPlanIdsUptoRow : OpenClaim := { program := "ytehhmjnjogckeaa", sum := "606988ce6f5de49240e5d2399f15c1130e75bb59470de753e39245d8e46a3f64", func := "loop.example/containerport/laws.FnPlanIds", spec := "fnPlanIds", inPlace := ["internal/bytealg.IndexByteString"], unfollowed := true, recurses := true, apart := false, narrowed := true }
def FnPlanIdsUptoSaid : Prop := fnPlanIdsUptoRow.holds Try.pinned (OpenSpec.upto fnPlanIdsSpec)

/-- 'laws.FnRowWeights', WHERE WHAT IT READS IS OF BULK AT MOST 1048576: true; the input reads as it did. -/
def fnRowWeightsUptoRow : OpenClaim := { program := "ytehhmjnjogckeaa", sum := "606988ce6f5de49240e5d2399f15c1130e75bb59470de753e39245d8e46a3f64", func := "loop.example/containerport/laws.FnRowWeights", spec := "fnRowWeights", inPlace := ["internal/bytealg.IndexByteString"], unfollowed := true, recurses := true, apart := false, narrowed := true }
def FnRowWeightsUptoSaid : Prop := fnRowWeightsUptoRow.holds Try.pinned (OpenSpec.upto fnRowWeightsSpec)

/-- 'laws.FnOnLighter', WHERE WHAT IT READS IS OF BULK AT MOST 1048576: true; the input reads as it did. -/
def fnOnLighterUptoRow : OpenClaim := { program := "ytehhmjnjogckeaa", sum := "606988ce6f5de49240e5d2399f15c1130e75bb59470de753e39245d8e46a3f64", func := "loop.example/containerport/laws.FnOnLighter", spec := "fnOnLighter", inPlace := ["internal/bytealg.IndexByteString"], unfollowed := true, recurses := true, apart := false, narrowed := true }
def FnOnLighterUptoSaid : Prop := fnOnLighterUptoRow.holds Try.pinned (OpenSpec.upto fnOnLighterSpec)

/-- 'laws.FnPlanNext', WHERE WHAT IT READS IS OF BULK AT MOST 1048576: true; the input reads as it did. -/
def fnPlanNextUptoRow : OpenClaim := { program := "ytehhmjnjogckeaa", sum := "606988ce6f5de49240e5d2399f15c1130e75bb59470de753e39245d8e46a3f64", func := "loop.example/containerport/laws.FnPlanNext", spec := "fnPlanNext", inPlace := ["internal/bytealg.IndexByteString"], unfollowed := true, recurses := true, apart := false, narrowed := true }
def FnPlanNextUptoSaid : Prop := fnPlanNextUptoRow.holds Try.pinned (OpenSpec.upto fnPlanNextSpec)

/-- 'laws.FnPlanPut', WHERE WHAT IT READS IS OF BULK AT MOST 1048576: true; the input reads as it did. -/
def fnPlanPutUptoRow : OpenClaim := { program := "ytehhmjnjogckeaa", sum := "606988ce6f5de49240e5d2399f15c1130e75bb59470de753e39245d8e46a3f64", func := "loop.example/containerport/laws.FnPlanPut", spec := "fnPlanPut", inPlace := ["internal/bytealg.IndexByteString"], unfollowed := true, recurses := true, apart := false, narrowed := true }
def FnPlanPutUptoSaid : Prop := fnPlanPutUptoRow.holds Try.pinned (OpenSpec.upto fnPlanPutSpec)

/-- 'laws.FnOverstows', WHERE WHAT IT READS IS OF BULK AT MOST 1048576: true; the input reads as it did. -/
def fnOverstowsUptoRow : OpenClaim := { program := "ytehhmjnjogckeaa", sum := "606988ce6f5de49240e5d2399f15c1130e75bb59470de753e39245d8e46a3f64", func := "loop.example/containerport/laws.FnOverstows", spec := "fnOverstows", inPlace := ["internal/bytealg.IndexByteString"], unfollowed := true, recurses := true, apart := false, narrowed := true }
def FnOverstowsUptoSaid : Prop := fnOverstowsUptoRow.holds Try.pinned (OpenSpec.upto fnOverstowsSpec)

end Rows
end Go.Proofs.Ytehhmjnjogckeaa
