/-
  No cell of these rows narrows 'for every input' (looked for: loops, veiled, ifaces, maps, wideKeys, modest, calm, conditions, laid).
  DERIVED. THE GIVEN ROWS OF THIS SEAT. 10 by the template 'for every input the law returns true; each argument reads behind the call as it read before'; 0 by the template 'total and deterministic' (their statements: YtpiaeckkjdcifaaTotals.lean).
  GIVEN WITH THE SEED: the statements are not yours to turn. If you find one false, say at which input.
  Laid BY PROGRAM, IN A SANDBOX (cutbox-rows.mjs): the forced cells as the released guide's own fill.sh prints them over the translation e093c8de93da2964… (all of the seat's roots in one cut). By AI agents, Wed Nov 11 2026. No macro, syntax, notation, axiom, sorry.
-/
import Derived.Test.YtpiaeckkjdcifaaChecked
import GoSem.Claim
import GoSem.ClaimJoined
import GoSem.ClaimMapViews
import Derived.JoinedTies
import Derived.KernelRfl
namespace Go.Proofs.Ytpiaeckkjdcifaa
/- THE CELL 'sum', in the pinned program and in every row, IS THE sha256 OF THE DUMP (.gsa) THAT YtpiaeckkjdcifaaProg.lean LOADS. Nothing in Lean hashes anything: it is a label: what it is worth is what the hold of that sum in a sandbox is worth. -/
noncomputable def Try.pinned : Pinned := { name := "ytpiaeckkjdcifaa", sum := "e093c8de93da2964b3ca141e8aa4c03e2528cd0b16d7579467bf5cf79b435e57", checked := Try.checked }
namespace Rows
def none {H : Type} : Left H := { results := [], args := [] }

/-- 'laws.FnPlugsOf': WHATEVER THE INPUT: true; the input reads as it did. -/
def fnPlugsOfSpec : ChangeSpec := { name := "fnPlugsOf", fn := fun _ => fun
  | [d] => { results := [.lit (.bool true)], args := [d] }
  | _ => none }
def fnPlugsOfRow : OpenClaim := { program := "ytpiaeckkjdcifaa", sum := "e093c8de93da2964b3ca141e8aa4c03e2528cd0b16d7579467bf5cf79b435e57", func := "loop.example/containerport/laws.FnPlugsOf", spec := "fnPlugsOf", inPlace := ["internal/bytealg.IndexByteString"], recurses := true, apart := false }
def FnPlugsOfSaid : Prop := fnPlugsOfRow.holds Try.pinned (OpenSpec.ofChange fnPlugsOfSpec)

/-- ITS FALSE NEIGHBOUR: 'it returns false'. Refute it at one input. -/
def fnPlugsOfWrong : ChangeSpec := { name := "fnPlugsOf", fn := fun _ => fun
  | [d] => { results := [.lit (.bool false)], args := [d] }
  | _ => none }
def FnPlugsOfWrongFalsely : Prop := fnPlugsOfRow.holds Try.pinned (OpenSpec.ofChange fnPlugsOfWrong)

/-- 'laws.FnPlugMany': WHATEVER THE INPUT: true; the input reads as it did. -/
def fnPlugManySpec : ChangeSpec := { name := "fnPlugMany", fn := fun _ => fun
  | [d] => { results := [.lit (.bool true)], args := [d] }
  | _ => none }
def fnPlugManyRow : OpenClaim := { program := "ytpiaeckkjdcifaa", sum := "e093c8de93da2964b3ca141e8aa4c03e2528cd0b16d7579467bf5cf79b435e57", func := "loop.example/containerport/laws.FnPlugMany", spec := "fnPlugMany", inPlace := ["internal/bytealg.IndexByteString"], recurses := true, apart := false }
def FnPlugManySaid : Prop := fnPlugManyRow.holds Try.pinned (OpenSpec.ofChange fnPlugManySpec)

/-- ITS FALSE NEIGHBOUR: 'it returns false'. Refute it at one input. -/
def fnPlugManyWrong : ChangeSpec := { name := "fnPlugMany", fn := fun _ => fun
  | [d] => { results := [.lit (.bool false)], args := [d] }
  | _ => none }
def FnPlugManyWrongFalsely : Prop := fnPlugManyRow.holds Try.pinned (OpenSpec.ofChange fnPlugManyWrong)

/-- 'laws.FnExactPlugsOf': WHATEVER THE INPUT: true; the input reads as it did. -/
def fnExactPlugsOfSpec : ChangeSpec := { name := "fnExactPlugsOf", fn := fun _ => fun
  | [d1, d2] => { results := [.lit (.bool true)], args := [d1, d2] }
  | _ => none }
def fnExactPlugsOfRow : OpenClaim := { program := "ytpiaeckkjdcifaa", sum := "e093c8de93da2964b3ca141e8aa4c03e2528cd0b16d7579467bf5cf79b435e57", func := "loop.example/containerport/laws.FnExactPlugsOf", spec := "fnExactPlugsOf", recurses := true, apart := false }
def FnExactPlugsOfSaid : Prop := fnExactPlugsOfRow.holds Try.pinned (OpenSpec.ofChange fnExactPlugsOfSpec)

/-- ITS FALSE NEIGHBOUR: 'it returns false'. Refute it at one input. -/
def fnExactPlugsOfWrong : ChangeSpec := { name := "fnExactPlugsOf", fn := fun _ => fun
  | [d1, d2] => { results := [.lit (.bool false)], args := [d1, d2] }
  | _ => none }
def FnExactPlugsOfWrongFalsely : Prop := fnExactPlugsOfRow.holds Try.pinned (OpenSpec.ofChange fnExactPlugsOfWrong)

/-- 'laws.FnExactLoadOrder': WHATEVER THE INPUT: true; the input reads as it did. -/
def fnExactLoadOrderSpec : ChangeSpec := { name := "fnExactLoadOrder", fn := fun _ => fun
  | [d1, d2, d3] => { results := [.lit (.bool true)], args := [d1, d2, d3] }
  | _ => none }
def fnExactLoadOrderRow : OpenClaim := { program := "ytpiaeckkjdcifaa", sum := "e093c8de93da2964b3ca141e8aa4c03e2528cd0b16d7579467bf5cf79b435e57", func := "loop.example/containerport/laws.FnExactLoadOrder", spec := "fnExactLoadOrder", unfollowed := true, recurses := true, apart := false }
def FnExactLoadOrderSaid : Prop := fnExactLoadOrderRow.holds Try.pinned (OpenSpec.ofChange fnExactLoadOrderSpec)

/-- ITS FALSE NEIGHBOUR: 'it returns false'. Refute it at one input. -/
def fnExactLoadOrderWrong : ChangeSpec := { name := "fnExactLoadOrder", fn := fun _ => fun
  | [d1, d2, d3] => { results := [.lit (.bool false)], args := [d1, d2, d3] }
  | _ => none }
def FnExactLoadOrderWrongFalsely : Prop := fnExactLoadOrderRow.holds Try.pinned (OpenSpec.ofChange fnExactLoadOrderWrong)

/-- 'laws.FnLoadOrder': WHATEVER THE INPUT: true; the input reads as it did. -/
def fnLoadOrderSpec : ChangeSpec := { name := "fnLoadOrder", fn := fun _ => fun
  | [d] => { results := [.lit (.bool true)], args := [d] }
  | _ => none }
def fnLoadOrderRow : OpenClaim := { program := "ytpiaeckkjdcifaa", sum := "e093c8de93da2964b3ca141e8aa4c03e2528cd0b16d7579467bf5cf79b435e57", func := "loop.example/containerport/laws.FnLoadOrder", spec := "fnLoadOrder", inPlace := ["internal/bytealg.IndexByteString"], unfollowed := true, recurses := true, apart := false }
def FnLoadOrderSaid : Prop := fnLoadOrderRow.holds Try.pinned (OpenSpec.ofChange fnLoadOrderSpec)

/-- ITS FALSE NEIGHBOUR: 'it returns false'. Refute it at one input. -/
def fnLoadOrderWrong : ChangeSpec := { name := "fnLoadOrder", fn := fun _ => fun
  | [d] => { results := [.lit (.bool false)], args := [d] }
  | _ => none }
def FnLoadOrderWrongFalsely : Prop := fnLoadOrderRow.holds Try.pinned (OpenSpec.ofChange fnLoadOrderWrong)

/-- 'laws.FnExactSortRows': WHATEVER THE INPUT: true; the input reads as it did. -/
def fnExactSortRowsSpec : ChangeSpec := { name := "fnExactSortRows", fn := fun _ => fun
  | [d1, d2, d3] => { results := [.lit (.bool true)], args := [d1, d2, d3] }
  | _ => none }
def fnExactSortRowsRow : OpenClaim := { program := "ytpiaeckkjdcifaa", sum := "e093c8de93da2964b3ca141e8aa4c03e2528cd0b16d7579467bf5cf79b435e57", func := "loop.example/containerport/laws.FnExactSortRows", spec := "fnExactSortRows", unfollowed := true, recurses := true, apart := false }
def FnExactSortRowsSaid : Prop := fnExactSortRowsRow.holds Try.pinned (OpenSpec.ofChange fnExactSortRowsSpec)

/-- ITS FALSE NEIGHBOUR: 'it returns false'. Refute it at one input. -/
def fnExactSortRowsWrong : ChangeSpec := { name := "fnExactSortRows", fn := fun _ => fun
  | [d1, d2, d3] => { results := [.lit (.bool false)], args := [d1, d2, d3] }
  | _ => none }
def FnExactSortRowsWrongFalsely : Prop := fnExactSortRowsRow.holds Try.pinned (OpenSpec.ofChange fnExactSortRowsWrong)

/-- 'laws.FnSortRows': WHATEVER THE INPUT: true; the input reads as it did. -/
def fnSortRowsSpec : ChangeSpec := { name := "fnSortRows", fn := fun _ => fun
  | [d] => { results := [.lit (.bool true)], args := [d] }
  | _ => none }
def fnSortRowsRow : OpenClaim := { program := "ytpiaeckkjdcifaa", sum := "e093c8de93da2964b3ca141e8aa4c03e2528cd0b16d7579467bf5cf79b435e57", func := "loop.example/containerport/laws.FnSortRows", spec := "fnSortRows", inPlace := ["internal/bytealg.IndexByteString"], unfollowed := true, recurses := true, apart := false }
def FnSortRowsSaid : Prop := fnSortRowsRow.holds Try.pinned (OpenSpec.ofChange fnSortRowsSpec)

/-- ITS FALSE NEIGHBOUR: 'it returns false'. Refute it at one input. -/
def fnSortRowsWrong : ChangeSpec := { name := "fnSortRows", fn := fun _ => fun
  | [d] => { results := [.lit (.bool false)], args := [d] }
  | _ => none }
def FnSortRowsWrongFalsely : Prop := fnSortRowsRow.holds Try.pinned (OpenSpec.ofChange fnSortRowsWrong)

/-- 'laws.FnExactBestOrder': WHATEVER THE INPUT: true; the input reads as it did. -/
def fnExactBestOrderSpec : ChangeSpec := { name := "fnExactBestOrder", fn := fun _ => fun
  | [d1, d2, d3] => { results := [.lit (.bool true)], args := [d1, d2, d3] }
  | _ => none }
def fnExactBestOrderRow : OpenClaim := { program := "ytpiaeckkjdcifaa", sum := "e093c8de93da2964b3ca141e8aa4c03e2528cd0b16d7579467bf5cf79b435e57", func := "loop.example/containerport/laws.FnExactBestOrder", spec := "fnExactBestOrder", unfollowed := true, recurses := true, apart := false }
def FnExactBestOrderSaid : Prop := fnExactBestOrderRow.holds Try.pinned (OpenSpec.ofChange fnExactBestOrderSpec)

/-- ITS FALSE NEIGHBOUR: 'it returns false'. Refute it at one input. -/
def fnExactBestOrderWrong : ChangeSpec := { name := "fnExactBestOrder", fn := fun _ => fun
  | [d1, d2, d3] => { results := [.lit (.bool false)], args := [d1, d2, d3] }
  | _ => none }
def FnExactBestOrderWrongFalsely : Prop := fnExactBestOrderRow.holds Try.pinned (OpenSpec.ofChange fnExactBestOrderWrong)

/-- 'laws.FnBestOrder': WHATEVER THE INPUT: true; the input reads as it did. -/
def fnBestOrderSpec : ChangeSpec := { name := "fnBestOrder", fn := fun _ => fun
  | [d] => { results := [.lit (.bool true)], args := [d] }
  | _ => none }
def fnBestOrderRow : OpenClaim := { program := "ytpiaeckkjdcifaa", sum := "e093c8de93da2964b3ca141e8aa4c03e2528cd0b16d7579467bf5cf79b435e57", func := "loop.example/containerport/laws.FnBestOrder", spec := "fnBestOrder", inPlace := ["internal/bytealg.IndexByteString"], unfollowed := true, recurses := true, apart := false }
def FnBestOrderSaid : Prop := fnBestOrderRow.holds Try.pinned (OpenSpec.ofChange fnBestOrderSpec)

/-- ITS FALSE NEIGHBOUR: 'it returns false'. Refute it at one input. -/
def fnBestOrderWrong : ChangeSpec := { name := "fnBestOrder", fn := fun _ => fun
  | [d] => { results := [.lit (.bool false)], args := [d] }
  | _ => none }
def FnBestOrderWrongFalsely : Prop := fnBestOrderRow.holds Try.pinned (OpenSpec.ofChange fnBestOrderWrong)

/-- 'laws.FnWorstHeel': WHATEVER THE INPUT: true; the input reads as it did. -/
def fnWorstHeelSpec : ChangeSpec := { name := "fnWorstHeel", fn := fun _ => fun
  | [d] => { results := [.lit (.bool true)], args := [d] }
  | _ => none }
def fnWorstHeelRow : OpenClaim := { program := "ytpiaeckkjdcifaa", sum := "e093c8de93da2964b3ca141e8aa4c03e2528cd0b16d7579467bf5cf79b435e57", func := "loop.example/containerport/laws.FnWorstHeel", spec := "fnWorstHeel", inPlace := ["internal/bytealg.IndexByteString"], unfollowed := true, recurses := true, apart := false }
def FnWorstHeelSaid : Prop := fnWorstHeelRow.holds Try.pinned (OpenSpec.ofChange fnWorstHeelSpec)

/-- ITS FALSE NEIGHBOUR: 'it returns false'. Refute it at one input. -/
def fnWorstHeelWrong : ChangeSpec := { name := "fnWorstHeel", fn := fun _ => fun
  | [d] => { results := [.lit (.bool false)], args := [d] }
  | _ => none }
def FnWorstHeelWrongFalsely : Prop := fnWorstHeelRow.holds Try.pinned (OpenSpec.ofChange fnWorstHeelWrong)

/- THE SECOND FORM. 'bulk': how many values and letters a reading holds, each counted each time it is reached (what is shared counts as often as it is met; a slice's spare places count too). A statement '..UptoSaid' is the law's where the arguments, and the package variables that the reading takes, are together of bulk at most 1048576: NARROWER than '..Said'. Prove '..Said' where nothing that the law and all that it calls make is longer than what came in: it says more and counts as full. Else prove '..UptoSaid'. A law counts once. -/
mutual
def uptoBulk {H : Type} : DataW H → Nat
  | .lit (.string bytes) => bytes.length + 1
  | .lit _ => 1
  | .nil => 1
  | .ptr d => uptoBulk d + 1
  | .slice elems spare => uptoBulkAll elems + uptoBulkAll spare + 1
  | .agg parts => uptoBulkAll parts + 1
  | .iface _ d => uptoBulk d + 1
  | .map entries => uptoBulkEntries entries + 1
  | .held _ => 1
def uptoBulkAll {H : Type} : List (DataW H) → Nat
  | [] => 0
  | d :: r => uptoBulk d + uptoBulkAll r
def uptoBulkEntries {H : Type} : List (Lit × DataW H) → Nat
  | [] => 0
  | x :: r => uptoBulkEntry x + uptoBulkEntries r
def uptoBulkEntry {H : Type} : Lit × DataW H → Nat
  | (.string bytes, d) => bytes.length + uptoBulk d + 1
  | (_, d) => uptoBulk d + 1
 end
def uptoSmall : (H : Type) → List (DataW H) → Bool := fun _ ds => decide (uptoBulkAll ds ≤ 1048576)
def OpenSpec.upto (s : _root_.Go.ChangeSpec) : _root_.Go.OpenSpec := { _root_.Go.OpenSpec.ofChange s with cond := some uptoSmall }

/-- 'laws.FnPlugsOf', WHERE WHAT IT READS IS OF BULK AT MOST 1048576: true; the input reads as it did. -/
def fnPlugsOfUptoRow : OpenClaim := { program := "ytpiaeckkjdcifaa", sum := "e093c8de93da2964b3ca141e8aa4c03e2528cd0b16d7579467bf5cf79b435e57", func := "loop.example/containerport/laws.FnPlugsOf", spec := "fnPlugsOf", inPlace := ["internal/bytealg.IndexByteString"], recurses := true, apart := false, narrowed := true }
def FnPlugsOfUptoSaid : Prop := fnPlugsOfUptoRow.holds Try.pinned (OpenSpec.upto fnPlugsOfSpec)

/-- 'laws.FnPlugMany', WHERE WHAT IT READS IS OF BULK AT MOST 1048576: true; the input reads as it did. -/
def fnPlugManyUptoRow : OpenClaim := { program := "ytpiaeckkjdcifaa", sum := "e093c8de93da2964b3ca141e8aa4c03e2528cd0b16d7579467bf5cf79b435e57", func := "loop.example/containerport/laws.FnPlugMany", spec := "fnPlugMany", inPlace := ["internal/bytealg.IndexByteString"], recurses := true, apart := false, narrowed := true }
def FnPlugManyUptoSaid : Prop := fnPlugManyUptoRow.holds Try.pinned (OpenSpec.upto fnPlugManySpec)

/-- 'laws.FnExactPlugsOf', WHERE WHAT IT READS IS OF BULK AT MOST 1048576: true; the input reads as it did. -/
def fnExactPlugsOfUptoRow : OpenClaim := { program := "ytpiaeckkjdcifaa", sum := "e093c8de93da2964b3ca141e8aa4c03e2528cd0b16d7579467bf5cf79b435e57", func := "loop.example/containerport/laws.FnExactPlugsOf", spec := "fnExactPlugsOf", recurses := true, apart := false, narrowed := true }
def FnExactPlugsOfUptoSaid : Prop := fnExactPlugsOfUptoRow.holds Try.pinned (OpenSpec.upto fnExactPlugsOfSpec)

/-- 'laws.FnExactLoadOrder', WHERE WHAT IT READS IS OF BULK AT MOST 1048576: true; the input reads as it did. -/
def fnExactLoadOrderUptoRow : OpenClaim := { program := "ytpiaeckkjdcifaa", sum := "e093c8de93da2964b3ca141e8aa4c03e2528cd0b16d7579467bf5cf79b435e57", func := "loop.example/containerport/laws.FnExactLoadOrder", spec := "fnExactLoadOrder", unfollowed := true, recurses := true, apart := false, narrowed := true }
def FnExactLoadOrderUptoSaid : Prop := fnExactLoadOrderUptoRow.holds Try.pinned (OpenSpec.upto fnExactLoadOrderSpec)

/-- 'laws.FnLoadOrder', WHERE WHAT IT READS IS OF BULK AT MOST 1048576: true; the input reads as it did. -/
def fnLoadOrderUptoRow : OpenClaim := { program := "ytpiaeckkjdcifaa", sum := "e093c8de93da2964b3ca141e8aa4c03e2528cd0b16d7579467bf5cf79b435e57", func := "loop.example/containerport/laws.FnLoadOrder", spec := "fnLoadOrder", inPlace := ["internal/bytealg.IndexByteString"], unfollowed := true, recurses := true, apart := false, narrowed := true }
def FnLoadOrderUptoSaid : Prop := fnLoadOrderUptoRow.holds Try.pinned (OpenSpec.upto fnLoadOrderSpec)

/-- 'laws.FnExactSortRows', WHERE WHAT IT READS IS OF BULK AT MOST 1048576: true; the input reads as it did. -/
def fnExactSortRowsUptoRow : OpenClaim := { program := "ytpiaeckkjdcifaa", sum := "e093c8de93da2964b3ca141e8aa4c03e2528cd0b16d7579467bf5cf79b435e57", func := "loop.example/containerport/laws.FnExactSortRows", spec := "fnExactSortRows", unfollowed := true, recurses := true, apart := false, narrowed := true }
def FnExactSortRowsUptoSaid : Prop := fnExactSortRowsUptoRow.holds Try.pinned (OpenSpec.upto fnExactSortRowsSpec)

/-- 'laws.FnSortRows', WHERE WHAT IT READS IS OF BULK AT MOST 1048576: true; the input reads as it did. -/
def fnSortRowsUptoRow : OpenClaim := { program := "ytpiaeckkjdcifaa", sum := "e093c8de93da2964b3ca141e8aa4c03e2528cd0b16d7579467bf5cf79b435e57", func := "loop.example/containerport/laws.FnSortRows", spec := "fnSortRows", inPlace := ["internal/bytealg.IndexByteString"], unfollowed := true, recurses := true, apart := false, narrowed := true }
def FnSortRowsUptoSaid : Prop := fnSortRowsUptoRow.holds Try.pinned (OpenSpec.upto fnSortRowsSpec)

/-- 'laws.FnExactBestOrder', WHERE WHAT IT READS IS OF BULK AT MOST 1048576: true; the input reads as it did. -/
def fnExactBestOrderUptoRow : OpenClaim := { program := "ytpiaeckkjdcifaa", sum := "e093c8de93da2964b3ca141e8aa4c03e2528cd0b16d7579467bf5cf79b435e57", func := "loop.example/containerport/laws.FnExactBestOrder", spec := "fnExactBestOrder", unfollowed := true, recurses := true, apart := false, narrowed := true }
def FnExactBestOrderUptoSaid : Prop := fnExactBestOrderUptoRow.holds Try.pinned (OpenSpec.upto fnExactBestOrderSpec)

/-- 'laws.FnBestOrder', WHERE WHAT IT READS IS OF BULK AT MOST 1048576: true; the input reads as it did. -/
def fnBestOrderUptoRow : OpenClaim := { program := "ytpiaeckkjdcifaa", sum := "e093c8de93da2964b3ca141e8aa4c03e2528cd0b16d7579467bf5cf79b435e57", func := "loop.example/containerport/laws.FnBestOrder", spec := "fnBestOrder", inPlace := ["internal/bytealg.IndexByteString"], unfollowed := true, recurses := true, apart := false, narrowed := true }
def FnBestOrderUptoSaid : Prop := fnBestOrderUptoRow.holds Try.pinned (OpenSpec.upto fnBestOrderSpec)

/-- 'laws.FnWorstHeel', WHERE WHAT IT READS IS OF BULK AT MOST 1048576: true; the input reads as it did. -/
def fnWorstHeelUptoRow : OpenClaim := { program := "ytpiaeckkjdcifaa", sum := "e093c8de93da2964b3ca141e8aa4c03e2528cd0b16d7579467bf5cf79b435e57", func := "loop.example/containerport/laws.FnWorstHeel", spec := "fnWorstHeel", inPlace := ["internal/bytealg.IndexByteString"], unfollowed := true, recurses := true, apart := false, narrowed := true }
def FnWorstHeelUptoSaid : Prop := fnWorstHeelUptoRow.holds Try.pinned (OpenSpec.upto fnWorstHeelSpec)

end Rows
end Go.Proofs.Ytpiaeckkjdcifaa
