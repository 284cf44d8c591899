/-
  No cell of these rows narrows 'for every input' (looked for: loops, veiled, ifaces, maps, wideKeys, modest, calm, conditions, laid).
  DERIVED. THE GIVEN ROWS OF THIS SEAT. 4 by the template 'for every input the law returns true; each argument reads behind the call as it read before'; 0 by the template 'total and deterministic' (their statements: YtbjibpghbaemfaaTotals.lean).
  GIVEN WITH THE SEED: the statements are not yours to turn. If you find one false, say at which input.
  Laid BY PROGRAM, IN A SANDBOX (cutbox-rows.mjs): the forced cells as the released guide's own fill.sh prints them over the translation c232ec19ba8df3cd… (all of the seat's roots in one cut). By AI agents, Wed Nov 11 2026. No macro, syntax, notation, axiom, sorry.
-/
import Derived.Test.YtbjibpghbaemfaaChecked
import GoSem.Claim
import GoSem.ClaimJoined
import GoSem.ClaimMapViews
import Derived.JoinedTies
import Derived.KernelRfl
namespace Go.Proofs.Ytbjibpghbaemfaa
/- THE CELL 'sum', in the pinned program and in every row, IS THE sha256 OF THE DUMP (.gsa) THAT YtbjibpghbaemfaaProg.lean LOADS. Nothing in Lean hashes anything: it is a label: what it is worth is what the hold of that sum in a sandbox is worth. -/
noncomputable def Try.pinned : Pinned := { name := "ytbjibpghbaemfaa", sum := "c232ec19ba8df3cdc51c9d22f4778a6754f2fcecfa63d6aea11b448723e994c5", checked := Try.checked }
namespace Rows
def none {H : Type} : Left H := { results := [], args := [] }

/-- 'flywheellaw30.TraceRight': WHATEVER THE INPUT: true; the input reads as it did. -/
def traceRightSpec : ChangeSpec := { name := "traceRight", fn := fun _ => fun
  | [d] => { results := [.lit (.bool true)], args := [d] }
  | _ => none }
def traceRightRow : OpenClaim := { program := "ytbjibpghbaemfaa", sum := "c232ec19ba8df3cdc51c9d22f4778a6754f2fcecfa63d6aea11b448723e994c5", func := "flywheel/flywheellaw30.TraceRight", spec := "traceRight", apart := false }
def TraceRightSaid : Prop := traceRightRow.holds Try.pinned (OpenSpec.ofChange traceRightSpec)

/-- ITS FALSE NEIGHBOUR: 'it returns false'. Refute it at one input. -/
def traceRightWrong : ChangeSpec := { name := "traceRight", fn := fun _ => fun
  | [d] => { results := [.lit (.bool false)], args := [d] }
  | _ => none }
def TraceRightWrongFalsely : Prop := traceRightRow.holds Try.pinned (OpenSpec.ofChange traceRightWrong)

/-- 'flywheellaw30.TraceFinds': WHATEVER THE INPUT: true; the input reads as it did. -/
def traceFindsSpec : ChangeSpec := { name := "traceFinds", fn := fun _ => fun
  | [d1, d2, d3, d4] => { results := [.lit (.bool true)], args := [d1, d2, d3, d4] }
  | _ => none }
def traceFindsRow : OpenClaim := { program := "ytbjibpghbaemfaa", sum := "c232ec19ba8df3cdc51c9d22f4778a6754f2fcecfa63d6aea11b448723e994c5", func := "flywheel/flywheellaw30.TraceFinds", spec := "traceFinds", apart := false }
def TraceFindsSaid : Prop := traceFindsRow.holds Try.pinned (OpenSpec.ofChange traceFindsSpec)

/-- ITS FALSE NEIGHBOUR: 'it returns false'. Refute it at one input. -/
def traceFindsWrong : ChangeSpec := { name := "traceFinds", fn := fun _ => fun
  | [d1, d2, d3, d4] => { results := [.lit (.bool false)], args := [d1, d2, d3, d4] }
  | _ => none }
def TraceFindsWrongFalsely : Prop := traceFindsRow.holds Try.pinned (OpenSpec.ofChange traceFindsWrong)

/-- 'flywheellaw30.TraceParts': WHATEVER THE INPUT: true; the input reads as it did. -/
def tracePartsSpec : ChangeSpec := { name := "traceParts", fn := fun _ => fun
  | [d1, d2, d3] => { results := [.lit (.bool true)], args := [d1, d2, d3] }
  | _ => none }
def tracePartsRow : OpenClaim := { program := "ytbjibpghbaemfaa", sum := "c232ec19ba8df3cdc51c9d22f4778a6754f2fcecfa63d6aea11b448723e994c5", func := "flywheel/flywheellaw30.TraceParts", spec := "traceParts", unfollowed := true, recurses := true, apart := false }
def TracePartsSaid : Prop := tracePartsRow.holds Try.pinned (OpenSpec.ofChange tracePartsSpec)

/-- ITS FALSE NEIGHBOUR: 'it returns false'. Refute it at one input. -/
def tracePartsWrong : ChangeSpec := { name := "traceParts", fn := fun _ => fun
  | [d1, d2, d3] => { results := [.lit (.bool false)], args := [d1, d2, d3] }
  | _ => none }
def TracePartsWrongFalsely : Prop := tracePartsRow.holds Try.pinned (OpenSpec.ofChange tracePartsWrong)

/-- 'flywheellaw30.TraceOrders': WHATEVER THE INPUT: true; the input reads as it did. -/
def traceOrdersSpec : ChangeSpec := { name := "traceOrders", fn := fun _ => fun
  | [d1, d2] => { results := [.lit (.bool true)], args := [d1, d2] }
  | _ => none }
def traceOrdersRow : OpenClaim := { program := "ytbjibpghbaemfaa", sum := "c232ec19ba8df3cdc51c9d22f4778a6754f2fcecfa63d6aea11b448723e994c5", func := "flywheel/flywheellaw30.TraceOrders", spec := "traceOrders", unfollowed := true, recurses := true, apart := false }
def TraceOrdersSaid : Prop := traceOrdersRow.holds Try.pinned (OpenSpec.ofChange traceOrdersSpec)

/-- ITS FALSE NEIGHBOUR: 'it returns false'. Refute it at one input. -/
def traceOrdersWrong : ChangeSpec := { name := "traceOrders", fn := fun _ => fun
  | [d1, d2] => { results := [.lit (.bool false)], args := [d1, d2] }
  | _ => none }
def TraceOrdersWrongFalsely : Prop := traceOrdersRow.holds Try.pinned (OpenSpec.ofChange traceOrdersWrong)

/- THE SECOND FORM. 'bulk': how many values and letters a reading holds, each counted each time it is reached (what is shared counts as often as it is met; a slice's spare places count too). A statement '..UptoSaid' is the law's where the arguments, and the package variables that the reading takes, are together of bulk at most 1048576: NARROWER than '..Said'. Prove '..Said' where nothing that the law and all that it calls make is longer than what came in: it says more and counts as full. Else prove '..UptoSaid'. A law counts once. -/
mutual
def uptoBulk {H : Type} : DataW H → Nat
  | .lit (.string bytes) => bytes.length + 1
  | .lit _ => 1
  | .nil => 1
  | .ptr d => uptoBulk d + 1
  | .slice elems spare => uptoBulkAll elems + uptoBulkAll spare + 1
  | .agg parts => uptoBulkAll parts + 1
  | .iface _ d => uptoBulk d + 1
  | .map entries => uptoBulkEntries entries + 1
  | .held _ => 1
def uptoBulkAll {H : Type} : List (DataW H) → Nat
  | [] => 0
  | d :: r => uptoBulk d + uptoBulkAll r
def uptoBulkEntries {H : Type} : List (Lit × DataW H) → Nat
  | [] => 0
  | x :: r => uptoBulkEntry x + uptoBulkEntries r
def uptoBulkEntry {H : Type} : Lit × DataW H → Nat
  | (.string bytes, d) => bytes.length + uptoBulk d + 1
  | (_, d) => uptoBulk d + 1
 end
def uptoSmall : (H : Type) → List (DataW H) → Bool := fun _ ds => decide (uptoBulkAll ds ≤ 1048576)
def OpenSpec.upto (s : _root_.Go.ChangeSpec) : _root_.Go.OpenSpec := { _root_.Go.OpenSpec.ofChange s with cond := some uptoSmall }

/-- 'flywheellaw30.TraceRight', WHERE WHAT IT READS IS OF BULK AT MOST 1048576: true; the input reads as it did. -/
def traceRightUptoRow : OpenClaim := { program := "ytbjibpghbaemfaa", sum := "c232ec19ba8df3cdc51c9d22f4778a6754f2fcecfa63d6aea11b448723e994c5", func := "flywheel/flywheellaw30.TraceRight", spec := "traceRight", apart := false, narrowed := true }
def TraceRightUptoSaid : Prop := traceRightUptoRow.holds Try.pinned (OpenSpec.upto traceRightSpec)

/-- 'flywheellaw30.TraceFinds', WHERE WHAT IT READS IS OF BULK AT MOST 1048576: true; the input reads as it did. -/
def traceFindsUptoRow : OpenClaim := { program := "ytbjibpghbaemfaa", sum := "c232ec19ba8df3cdc51c9d22f4778a6754f2fcecfa63d6aea11b448723e994c5", func := "flywheel/flywheellaw30.TraceFinds", spec := "traceFinds", apart := false, narrowed := true }
def TraceFindsUptoSaid : Prop := traceFindsUptoRow.holds Try.pinned (OpenSpec.upto traceFindsSpec)

/-- 'flywheellaw30.TraceParts', WHERE WHAT IT READS IS OF BULK AT MOST 1048576: true; the input reads as it did. -/
def tracePartsUptoRow : OpenClaim := { program := "ytbjibpghbaemfaa", sum := "c232ec19ba8df3cdc51c9d22f4778a6754f2fcecfa63d6aea11b448723e994c5", func := "flywheel/flywheellaw30.TraceParts", spec := "traceParts", unfollowed := true, recurses := true, apart := false, narrowed := true }
def TracePartsUptoSaid : Prop := tracePartsUptoRow.holds Try.pinned (OpenSpec.upto tracePartsSpec)

/-- 'flywheellaw30.TraceOrders', WHERE WHAT IT READS IS OF BULK AT MOST 1048576: true; the input reads as it did. -/
def traceOrdersUptoRow : OpenClaim := { program := "ytbjibpghbaemfaa", sum := "c232ec19ba8df3cdc51c9d22f4778a6754f2fcecfa63d6aea11b448723e994c5", func := "flywheel/flywheellaw30.TraceOrders", spec := "traceOrders", unfollowed := true, recurses := true, apart := false, narrowed := true }
def TraceOrdersUptoSaid : Prop := traceOrdersUptoRow.holds Try.pinned (OpenSpec.upto traceOrdersSpec)

end Rows
end Go.Proofs.Ytbjibpghbaemfaa
