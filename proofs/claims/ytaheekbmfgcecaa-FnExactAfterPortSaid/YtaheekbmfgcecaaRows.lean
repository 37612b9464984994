/-
  No cell of these rows narrows 'for every input' (looked for: loops, veiled, ifaces, maps, wideKeys, modest, calm, conditions, laid).
  DERIVED. THE GIVEN ROWS OF THIS SEAT. 12 by the template 'for every input the law returns true; each argument reads behind the call as it read before'; 0 by the template 'total and deterministic' (their statements: YtaheekbmfgcecaaTotals.lean).
  GIVEN WITH THE SEED: the statements are not yours to turn. If you find one false, say at which input.
  Laid BY PROGRAM, IN A SANDBOX (cutbox-rows.mjs): the forced cells as the released guide's own fill.sh prints them over the translation 0a7ca4f7f33d8e0a… (all of the seat's roots in one cut). By AI agents, Wed Nov 11 2026. No macro, syntax, notation, axiom, sorry.
-/
import Derived.Test.YtaheekbmfgcecaaChecked
import GoSem.Claim
import GoSem.ClaimJoined
import GoSem.ClaimMapViews
import Derived.JoinedTies
import Derived.KernelRfl
namespace Go.Proofs.Ytaheekbmfgcecaa
/- THE CELL 'sum', in the pinned program and in every row, IS THE sha256 OF THE DUMP (.gsa) THAT YtaheekbmfgcecaaProg.lean LOADS. Nothing in Lean hashes anything: it is a label: what it is worth is what the hold of that sum in a sandbox is worth. -/
noncomputable def Try.pinned : Pinned := { name := "ytaheekbmfgcecaa", sum := "0a7ca4f7f33d8e0a84825867adfed17ed221cdaf7aa4b47bc6c6e479401c48fb", checked := Try.checked }
namespace Rows
def none {H : Type} : Left H := { results := [], args := [] }

/-- 'laws.FnExactLoadOf': WHATEVER THE INPUT: true; the input reads as it did. -/
def fnExactLoadOfSpec : ChangeSpec := { name := "fnExactLoadOf", fn := fun _ => fun
  | [d1, d2, d3] => { results := [.lit (.bool true)], args := [d1, d2, d3] }
  | _ => none }
def fnExactLoadOfRow : OpenClaim := { program := "ytaheekbmfgcecaa", sum := "0a7ca4f7f33d8e0a84825867adfed17ed221cdaf7aa4b47bc6c6e479401c48fb", func := "loop.example/containerport/laws.FnExactLoadOf", spec := "fnExactLoadOf", unfollowed := true, recurses := true, apart := false }
def FnExactLoadOfSaid : Prop := fnExactLoadOfRow.holds Try.pinned (OpenSpec.ofChange fnExactLoadOfSpec)

/-- ITS FALSE NEIGHBOUR: 'it returns false'. Refute it at one input. -/
def fnExactLoadOfWrong : ChangeSpec := { name := "fnExactLoadOf", fn := fun _ => fun
  | [d1, d2, d3] => { results := [.lit (.bool false)], args := [d1, d2, d3] }
  | _ => none }
def FnExactLoadOfWrongFalsely : Prop := fnExactLoadOfRow.holds Try.pinned (OpenSpec.ofChange fnExactLoadOfWrong)

/-- 'laws.FnExactTrimOf': WHATEVER THE INPUT: true; the input reads as it did. -/
def fnExactTrimOfSpec : ChangeSpec := { name := "fnExactTrimOf", fn := fun _ => fun
  | [d1, d2, d3] => { results := [.lit (.bool true)], args := [d1, d2, d3] }
  | _ => none }
def fnExactTrimOfRow : OpenClaim := { program := "ytaheekbmfgcecaa", sum := "0a7ca4f7f33d8e0a84825867adfed17ed221cdaf7aa4b47bc6c6e479401c48fb", func := "loop.example/containerport/laws.FnExactTrimOf", spec := "fnExactTrimOf", unfollowed := true, recurses := true, apart := false }
def FnExactTrimOfSaid : Prop := fnExactTrimOfRow.holds Try.pinned (OpenSpec.ofChange fnExactTrimOfSpec)

/-- ITS FALSE NEIGHBOUR: 'it returns false'. Refute it at one input. -/
def fnExactTrimOfWrong : ChangeSpec := { name := "fnExactTrimOf", fn := fun _ => fun
  | [d1, d2, d3] => { results := [.lit (.bool false)], args := [d1, d2, d3] }
  | _ => none }
def FnExactTrimOfWrongFalsely : Prop := fnExactTrimOfRow.holds Try.pinned (OpenSpec.ofChange fnExactTrimOfWrong)

/-- 'laws.FnExactHeelOf': WHATEVER THE INPUT: true; the input reads as it did. -/
def fnExactHeelOfSpec : ChangeSpec := { name := "fnExactHeelOf", fn := fun _ => fun
  | [d1, d2, d3] => { results := [.lit (.bool true)], args := [d1, d2, d3] }
  | _ => none }
def fnExactHeelOfRow : OpenClaim := { program := "ytaheekbmfgcecaa", sum := "0a7ca4f7f33d8e0a84825867adfed17ed221cdaf7aa4b47bc6c6e479401c48fb", func := "loop.example/containerport/laws.FnExactHeelOf", spec := "fnExactHeelOf", unfollowed := true, recurses := true, apart := false }
def FnExactHeelOfSaid : Prop := fnExactHeelOfRow.holds Try.pinned (OpenSpec.ofChange fnExactHeelOfSpec)

/-- ITS FALSE NEIGHBOUR: 'it returns false'. Refute it at one input. -/
def fnExactHeelOfWrong : ChangeSpec := { name := "fnExactHeelOf", fn := fun _ => fun
  | [d1, d2, d3] => { results := [.lit (.bool false)], args := [d1, d2, d3] }
  | _ => none }
def FnExactHeelOfWrongFalsely : Prop := fnExactHeelOfRow.holds Try.pinned (OpenSpec.ofChange fnExactHeelOfWrong)

/-- 'laws.FnExactOverstows': WHATEVER THE INPUT: true; the input reads as it did. -/
def fnExactOverstowsSpec : ChangeSpec := { name := "fnExactOverstows", fn := fun _ => fun
  | [d1, d2, d3] => { results := [.lit (.bool true)], args := [d1, d2, d3] }
  | _ => none }
def fnExactOverstowsRow : OpenClaim := { program := "ytaheekbmfgcecaa", sum := "0a7ca4f7f33d8e0a84825867adfed17ed221cdaf7aa4b47bc6c6e479401c48fb", func := "loop.example/containerport/laws.FnExactOverstows", spec := "fnExactOverstows", unfollowed := true, recurses := true, apart := false }
def FnExactOverstowsSaid : Prop := fnExactOverstowsRow.holds Try.pinned (OpenSpec.ofChange fnExactOverstowsSpec)

/-- ITS FALSE NEIGHBOUR: 'it returns false'. Refute it at one input. -/
def fnExactOverstowsWrong : ChangeSpec := { name := "fnExactOverstows", fn := fun _ => fun
  | [d1, d2, d3] => { results := [.lit (.bool false)], args := [d1, d2, d3] }
  | _ => none }
def FnExactOverstowsWrongFalsely : Prop := fnExactOverstowsRow.holds Try.pinned (OpenSpec.ofChange fnExactOverstowsWrong)

/-- 'laws.FnExactLoadOk': WHATEVER THE INPUT: true; the input reads as it did. -/
def fnExactLoadOkSpec : ChangeSpec := { name := "fnExactLoadOk", fn := fun _ => fun
  | [d1, d2, d3, d4] => { results := [.lit (.bool true)], args := [d1, d2, d3, d4] }
  | _ => none }
def fnExactLoadOkRow : OpenClaim := { program := "ytaheekbmfgcecaa", sum := "0a7ca4f7f33d8e0a84825867adfed17ed221cdaf7aa4b47bc6c6e479401c48fb", func := "loop.example/containerport/laws.FnExactLoadOk", spec := "fnExactLoadOk", unfollowed := true, recurses := true, apart := false }
def FnExactLoadOkSaid : Prop := fnExactLoadOkRow.holds Try.pinned (OpenSpec.ofChange fnExactLoadOkSpec)

/-- ITS FALSE NEIGHBOUR: 'it returns false'. Refute it at one input. -/
def fnExactLoadOkWrong : ChangeSpec := { name := "fnExactLoadOk", fn := fun _ => fun
  | [d1, d2, d3, d4] => { results := [.lit (.bool false)], args := [d1, d2, d3, d4] }
  | _ => none }
def FnExactLoadOkWrongFalsely : Prop := fnExactLoadOkRow.holds Try.pinned (OpenSpec.ofChange fnExactLoadOkWrong)

/-- 'laws.FnExactLeftOver': WHATEVER THE INPUT: true; the input reads as it did. -/
def fnExactLeftOverSpec : ChangeSpec := { name := "fnExactLeftOver", fn := fun _ => fun
  | [d1, d2, d3] => { results := [.lit (.bool true)], args := [d1, d2, d3] }
  | _ => none }
def fnExactLeftOverRow : OpenClaim := { program := "ytaheekbmfgcecaa", sum := "0a7ca4f7f33d8e0a84825867adfed17ed221cdaf7aa4b47bc6c6e479401c48fb", func := "loop.example/containerport/laws.FnExactLeftOver", spec := "fnExactLeftOver", unfollowed := true, recurses := true, apart := false }
def FnExactLeftOverSaid : Prop := fnExactLeftOverRow.holds Try.pinned (OpenSpec.ofChange fnExactLeftOverSpec)

/-- ITS FALSE NEIGHBOUR: 'it returns false'. Refute it at one input. -/
def fnExactLeftOverWrong : ChangeSpec := { name := "fnExactLeftOver", fn := fun _ => fun
  | [d1, d2, d3] => { results := [.lit (.bool false)], args := [d1, d2, d3] }
  | _ => none }
def FnExactLeftOverWrongFalsely : Prop := fnExactLeftOverRow.holds Try.pinned (OpenSpec.ofChange fnExactLeftOverWrong)

/-- 'laws.FnExactRowsBear': WHATEVER THE INPUT: true; the input reads as it did. -/
def fnExactRowsBearSpec : ChangeSpec := { name := "fnExactRowsBear", fn := fun _ => fun
  | [d1, d2, d3, d4] => { results := [.lit (.bool true)], args := [d1, d2, d3, d4] }
  | _ => none }
def fnExactRowsBearRow : OpenClaim := { program := "ytaheekbmfgcecaa", sum := "0a7ca4f7f33d8e0a84825867adfed17ed221cdaf7aa4b47bc6c6e479401c48fb", func := "loop.example/containerport/laws.FnExactRowsBear", spec := "fnExactRowsBear", unfollowed := true, recurses := true, apart := false }
def FnExactRowsBearSaid : Prop := fnExactRowsBearRow.holds Try.pinned (OpenSpec.ofChange fnExactRowsBearSpec)

/-- ITS FALSE NEIGHBOUR: 'it returns false'. Refute it at one input. -/
def fnExactRowsBearWrong : ChangeSpec := { name := "fnExactRowsBear", fn := fun _ => fun
  | [d1, d2, d3, d4] => { results := [.lit (.bool false)], args := [d1, d2, d3, d4] }
  | _ => none }
def FnExactRowsBearWrongFalsely : Prop := fnExactRowsBearRow.holds Try.pinned (OpenSpec.ofChange fnExactRowsBearWrong)

/-- 'laws.FnExactOnLighter': WHATEVER THE INPUT: true; the input reads as it did. -/
def fnExactOnLighterSpec : ChangeSpec := { name := "fnExactOnLighter", fn := fun _ => fun
  | [d1, d2, d3] => { results := [.lit (.bool true)], args := [d1, d2, d3] }
  | _ => none }
def fnExactOnLighterRow : OpenClaim := { program := "ytaheekbmfgcecaa", sum := "0a7ca4f7f33d8e0a84825867adfed17ed221cdaf7aa4b47bc6c6e479401c48fb", func := "loop.example/containerport/laws.FnExactOnLighter", spec := "fnExactOnLighter", unfollowed := true, recurses := true, apart := false }
def FnExactOnLighterSaid : Prop := fnExactOnLighterRow.holds Try.pinned (OpenSpec.ofChange fnExactOnLighterSpec)

/-- ITS FALSE NEIGHBOUR: 'it returns false'. Refute it at one input. -/
def fnExactOnLighterWrong : ChangeSpec := { name := "fnExactOnLighter", fn := fun _ => fun
  | [d1, d2, d3] => { results := [.lit (.bool false)], args := [d1, d2, d3] }
  | _ => none }
def FnExactOnLighterWrongFalsely : Prop := fnExactOnLighterRow.holds Try.pinned (OpenSpec.ofChange fnExactOnLighterWrong)

/-- 'laws.FnExactPlanPut': WHATEVER THE INPUT: true; the input reads as it did. -/
def fnExactPlanPutSpec : ChangeSpec := { name := "fnExactPlanPut", fn := fun _ => fun
  | [d1, d2, d3, d4, d5] => { results := [.lit (.bool true)], args := [d1, d2, d3, d4, d5] }
  | _ => none }
def fnExactPlanPutRow : OpenClaim := { program := "ytaheekbmfgcecaa", sum := "0a7ca4f7f33d8e0a84825867adfed17ed221cdaf7aa4b47bc6c6e479401c48fb", func := "loop.example/containerport/laws.FnExactPlanPut", spec := "fnExactPlanPut", unfollowed := true, recurses := true, apart := false }
def FnExactPlanPutSaid : Prop := fnExactPlanPutRow.holds Try.pinned (OpenSpec.ofChange fnExactPlanPutSpec)

/-- ITS FALSE NEIGHBOUR: 'it returns false'. Refute it at one input. -/
def fnExactPlanPutWrong : ChangeSpec := { name := "fnExactPlanPut", fn := fun _ => fun
  | [d1, d2, d3, d4, d5] => { results := [.lit (.bool false)], args := [d1, d2, d3, d4, d5] }
  | _ => none }
def FnExactPlanPutWrongFalsely : Prop := fnExactPlanPutRow.holds Try.pinned (OpenSpec.ofChange fnExactPlanPutWrong)

/-- 'laws.FnExactAfterPort': WHATEVER THE INPUT: true; the input reads as it did. -/
def fnExactAfterPortSpec : ChangeSpec := { name := "fnExactAfterPort", fn := fun _ => fun
  | [d1, d2, d3, d4] => { results := [.lit (.bool true)], args := [d1, d2, d3, d4] }
  | _ => none }
def fnExactAfterPortRow : OpenClaim := { program := "ytaheekbmfgcecaa", sum := "0a7ca4f7f33d8e0a84825867adfed17ed221cdaf7aa4b47bc6c6e479401c48fb", func := "loop.example/containerport/laws.FnExactAfterPort", spec := "fnExactAfterPort", unfollowed := true, recurses := true, apart := false }
def FnExactAfterPortSaid : Prop := fnExactAfterPortRow.holds Try.pinned (OpenSpec.ofChange fnExactAfterPortSpec)

/-- ITS FALSE NEIGHBOUR: 'it returns false'. Refute it at one input. -/
def fnExactAfterPortWrong : ChangeSpec := { name := "fnExactAfterPort", fn := fun _ => fun
  | [d1, d2, d3, d4] => { results := [.lit (.bool false)], args := [d1, d2, d3, d4] }
  | _ => none }
def FnExactAfterPortWrongFalsely : Prop := fnExactAfterPortRow.holds Try.pinned (OpenSpec.ofChange fnExactAfterPortWrong)

/-- 'laws.FnExactRowWeights': WHATEVER THE INPUT: true; the input reads as it did. -/
def fnExactRowWeightsSpec : ChangeSpec := { name := "fnExactRowWeights", fn := fun _ => fun
  | [d1, d2, d3] => { results := [.lit (.bool true)], args := [d1, d2, d3] }
  | _ => none }
def fnExactRowWeightsRow : OpenClaim := { program := "ytaheekbmfgcecaa", sum := "0a7ca4f7f33d8e0a84825867adfed17ed221cdaf7aa4b47bc6c6e479401c48fb", func := "loop.example/containerport/laws.FnExactRowWeights", spec := "fnExactRowWeights", unfollowed := true, recurses := true, apart := false }
def FnExactRowWeightsSaid : Prop := fnExactRowWeightsRow.holds Try.pinned (OpenSpec.ofChange fnExactRowWeightsSpec)

/-- ITS FALSE NEIGHBOUR: 'it returns false'. Refute it at one input. -/
def fnExactRowWeightsWrong : ChangeSpec := { name := "fnExactRowWeights", fn := fun _ => fun
  | [d1, d2, d3] => { results := [.lit (.bool false)], args := [d1, d2, d3] }
  | _ => none }
def FnExactRowWeightsWrongFalsely : Prop := fnExactRowWeightsRow.holds Try.pinned (OpenSpec.ofChange fnExactRowWeightsWrong)

/-- 'laws.FnExactPortMoves': WHATEVER THE INPUT: true; the input reads as it did. -/
def fnExactPortMovesSpec : ChangeSpec := { name := "fnExactPortMoves", fn := fun _ => fun
  | [d1, d2, d3, d4] => { results := [.lit (.bool true)], args := [d1, d2, d3, d4] }
  | _ => none }
def fnExactPortMovesRow : OpenClaim := { program := "ytaheekbmfgcecaa", sum := "0a7ca4f7f33d8e0a84825867adfed17ed221cdaf7aa4b47bc6c6e479401c48fb", func := "loop.example/containerport/laws.FnExactPortMoves", spec := "fnExactPortMoves", unfollowed := true, recurses := true, apart := false }
def FnExactPortMovesSaid : Prop := fnExactPortMovesRow.holds Try.pinned (OpenSpec.ofChange fnExactPortMovesSpec)

/-- ITS FALSE NEIGHBOUR: 'it returns false'. Refute it at one input. -/
def fnExactPortMovesWrong : ChangeSpec := { name := "fnExactPortMoves", fn := fun _ => fun
  | [d1, d2, d3, d4] => { results := [.lit (.bool false)], args := [d1, d2, d3, d4] }
  | _ => none }
def FnExactPortMovesWrongFalsely : Prop := fnExactPortMovesRow.holds Try.pinned (OpenSpec.ofChange fnExactPortMovesWrong)

/- THE SECOND FORM. 'bulk': how many values and letters a reading holds, each counted each time it is reached (what is shared counts as often as it is met; a slice's spare places count too). A statement '..UptoSaid' is the law's where the arguments, and the package variables that the reading takes, are together of bulk at most 1048576: NARROWER than '..Said'. Prove '..Said' where nothing that the law and all that it calls make is longer than what came in: it says more and counts as full. Else prove '..UptoSaid'. A law counts once. -/
mutual
def uptoBulk {H : Type} : DataW H → Nat
  | .lit (.string bytes) => bytes.length + 1
  | .lit _ => 1
  | .nil => 1
  | .ptr d => uptoBulk d + 1
  | .slice elems spare => uptoBulkAll elems + uptoBulkAll spare + 1
  | .agg parts => uptoBulkAll parts + 1
  | .iface _ d => uptoBulk d + 1
  | .map entries => uptoBulkEntries entries + 1
  | .held _ => 1
def uptoBulkAll {H : Type} : List (DataW H) → Nat
  | [] => 0
  | d :: r => uptoBulk d + uptoBulkAll r
def uptoBulkEntries {H : Type} : List (Lit × DataW H) → Nat
  | [] => 0
  | x :: r => uptoBulkEntry x + uptoBulkEntries r
def uptoBulkEntry {H : Type} : Lit × DataW H → Nat
  | (.string bytes, d) => bytes.length + uptoBulk d + 1
  | (_, d) => uptoBulk d + 1
 end
def uptoSmall : (H : Type) → List (DataW H) → Bool := fun _ ds => decide (uptoBulkAll ds ≤ 1048576)
def OpenSpec.upto (s : _root_.Go.ChangeSpec) : _root_.Go.OpenSpec := { _root_.Go.OpenSpec.ofChange s with cond := some uptoSmall }

/-- 'laws.FnExactLoadOf', WHERE WHAT IT READS IS OF BULK AT MOST 1048576: true; the input reads as it did. -/
def fnExactLoadOfUptoRow : OpenClaim := { program := "ytaheekbmfgcecaa", sum := "0a7ca4f7f33d8e0a84825867adfed17ed221cdaf7aa4b47bc6c6e479401c48fb", func := "loop.example/containerport/laws.FnExactLoadOf", spec := "fnExactLoadOf", unfollowed := true, recurses := true, apart := false, narrowed := true }
def FnExactLoadOfUptoSaid : Prop := fnExactLoadOfUptoRow.holds Try.pinned (OpenSpec.upto fnExactLoadOfSpec)

/-- 'laws.FnExactTrimOf', WHERE WHAT IT READS IS OF BULK AT MOST 1048576: true; the input reads as it did. -/
def fnExactTrimOfUptoRow : OpenClaim := { program := "ytaheekbmfgcecaa", sum := "0a7ca4f7f33d8e0a84825867adfed17ed221cdaf7aa4b47bc6c6e479401c48fb", func := "loop.example/containerport/laws.FnExactTrimOf", spec := "fnExactTrimOf", unfollowed := true, recurses := true, apart := false, narrowed := true }
def FnExactTrimOfUptoSaid : Prop := fnExactTrimOfUptoRow.holds Try.pinned (OpenSpec.upto fnExactTrimOfSpec)

/-- 'laws.FnExactHeelOf', WHERE WHAT IT READS IS OF BULK AT MOST 1048576: true; the input reads as it did. -/
def fnExactHeelOfUptoRow : OpenClaim := { program := "ytaheekbmfgcecaa", sum := "0a7ca4f7f33d8e0a84825867adfed17ed221cdaf7aa4b47bc6c6e479401c48fb", func := "loop.example/containerport/laws.FnExactHeelOf", spec := "fnExactHeelOf", unfollowed := true, recurses := true, apart := false, narrowed := true }
def FnExactHeelOfUptoSaid : Prop := fnExactHeelOfUptoRow.holds Try.pinned (OpenSpec.upto fnExactHeelOfSpec)

/-- 'laws.FnExactOverstows', WHERE WHAT IT READS IS OF BULK AT MOST 1048576: true; the input reads as it did. -/
def fnExactOverstowsUptoRow : OpenClaim := { program := "ytaheekbmfgcecaa", sum := "0a7ca4f7f33d8e0a84825867adfed17ed221cdaf7aa4b47bc6c6e479401c48fb", func := "loop.example/containerport/laws.FnExactOverstows", spec := "fnExactOverstows", unfollowed := true, recurses := true, apart := false, narrowed := true }
def FnExactOverstowsUptoSaid : Prop := fnExactOverstowsUptoRow.holds Try.pinned (OpenSpec.upto fnExactOverstowsSpec)

/-- 'laws.FnExactLoadOk', WHERE WHAT IT READS IS OF BULK AT MOST 1048576: true; the input reads as it did. -/
def fnExactLoadOkUptoRow : OpenClaim := { program := "ytaheekbmfgcecaa", sum := "0a7ca4f7f33d8e0a84825867adfed17ed221cdaf7aa4b47bc6c6e479401c48fb", func := "loop.example/containerport/laws.FnExactLoadOk", spec := "fnExactLoadOk", unfollowed := true, recurses := true, apart := false, narrowed := true }
def FnExactLoadOkUptoSaid : Prop := fnExactLoadOkUptoRow.holds Try.pinned (OpenSpec.upto fnExactLoadOkSpec)

/-- 'laws.FnExactLeftOver', WHERE WHAT IT READS IS OF BULK AT MOST 1048576: true; the input reads as it did. -/
def fnExactLeftOverUptoRow : OpenClaim := { program := "ytaheekbmfgcecaa", sum := "0a7ca4f7f33d8e0a84825867adfed17ed221cdaf7aa4b47bc6c6e479401c48fb", func := "loop.example/containerport/laws.FnExactLeftOver", spec := "fnExactLeftOver", unfollowed := true, recurses := true, apart := false, narrowed := true }
def FnExactLeftOverUptoSaid : Prop := fnExactLeftOverUptoRow.holds Try.pinned (OpenSpec.upto fnExactLeftOverSpec)

/-- 'laws.FnExactRowsBear', WHERE WHAT IT READS IS OF BULK AT MOST 1048576: true; the input reads as it did. -/
def fnExactRowsBearUptoRow : OpenClaim := { program := "ytaheekbmfgcecaa", sum := "0a7ca4f7f33d8e0a84825867adfed17ed221cdaf7aa4b47bc6c6e479401c48fb", func := "loop.example/containerport/laws.FnExactRowsBear", spec := "fnExactRowsBear", unfollowed := true, recurses := true, apart := false, narrowed := true }
def FnExactRowsBearUptoSaid : Prop := fnExactRowsBearUptoRow.holds Try.pinned (OpenSpec.upto fnExactRowsBearSpec)

/-- 'laws.FnExactOnLighter', WHERE WHAT IT READS IS OF BULK AT MOST 1048576: true; the input reads as it did. -/
def fnExactOnLighterUptoRow : OpenClaim := { program := "ytaheekbmfgcecaa", sum := "0a7ca4f7f33d8e0a84825867adfed17ed221cdaf7aa4b47bc6c6e479401c48fb", func := "loop.example/containerport/laws.FnExactOnLighter", spec := "fnExactOnLighter", unfollowed := true, recurses := true, apart := false, narrowed := true }
def FnExactOnLighterUptoSaid : Prop := fnExactOnLighterUptoRow.holds Try.pinned (OpenSpec.upto fnExactOnLighterSpec)

/-- 'laws.FnExactPlanPut', WHERE WHAT IT READS IS OF BULK AT MOST 1048576: true; the input reads as it did. -/
def fnExactPlanPutUptoRow : OpenClaim := { program := "ytaheekbmfgcecaa", sum := "0a7ca4f7f33d8e0a84825867adfed17ed221cdaf7aa4b47bc6c6e479401c48fb", func := "loop.example/containerport/laws.FnExactPlanPut", spec := "fnExactPlanPut", unfollowed := true, recurses := true, apart := false, narrowed := true }
def FnExactPlanPutUptoSaid : Prop := fnExactPlanPutUptoRow.holds Try.pinned (OpenSpec.upto fnExactPlanPutSpec)

/-- 'laws.FnExactAfterPort', WHERE WHAT IT READS IS OF BULK AT MOST 1048576: true; the input reads as it did. -/
def fnExactAfterPortUptoRow : OpenClaim := { program := "ytaheekbmfgcecaa", sum := "0a7ca4f7f33d8e0a84825867adfed17ed221cdaf7aa4b47bc6c6e479401c48fb", func := "loop.example/containerport/laws.FnExactAfterPort", spec := "fnExactAfterPort", unfollowed := true, recurses := true, apart := false, narrowed := true }
def FnExactAfterPortUptoSaid : Prop := fnExactAfterPortUptoRow.holds Try.pinned (OpenSpec.upto fnExactAfterPortSpec)

/-- 'laws.FnExactRowWeights', WHERE WHAT IT READS IS OF BULK AT MOST 1048576: true; the input reads as it did. -/
def fnExactRowWeightsUptoRow : OpenClaim := { program := "ytaheekbmfgcecaa", sum := "0a7ca4f7f33d8e0a84825867adfed17ed221cdaf7aa4b47bc6c6e479401c48fb", func := "loop.example/containerport/laws.FnExactRowWeights", spec := "fnExactRowWeights", unfollowed := true, recurses := true, apart := false, narrowed := true }
def FnExactRowWeightsUptoSaid : Prop := fnExactRowWeightsUptoRow.holds Try.pinned (OpenSpec.upto fnExactRowWeightsSpec)

/-- 'laws.FnExactPortMoves', WHERE WHAT IT READS IS OF BULK AT MOST 1048576: true; the input reads as it did. -/
def fnExactPortMovesUptoRow : OpenClaim := { program := "ytaheekbmfgcecaa", sum := "0a7ca4f7f33d8e0a84825867adfed17ed221cdaf7aa4b47bc6c6e479401c48fb", func := "loop.example/containerport/laws.FnExactPortMoves", spec := "fnExactPortMoves", unfollowed := true, recurses := true, apart := false, narrowed := true }
def FnExactPortMovesUptoSaid : Prop := fnExactPortMovesUptoRow.holds Try.pinned (OpenSpec.upto fnExactPortMovesSpec)

end Rows
end Go.Proofs.Ytaheekbmfgcecaa
