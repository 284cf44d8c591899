/-
  No cell of these rows narrows 'for every input' (looked for: loops, veiled, ifaces, maps, wideKeys, modest, calm, conditions, laid).
  DERIVED. THE GIVEN ROWS OF THIS SEAT. 4 by the template 'for every input the law returns true; each argument reads behind the call as it read before'; 0 by the template 'total and deterministic' (their statements: YtpfmpaolgmoajaaGreatTotals.lean).
  GIVEN WITH THE SEED: the statements are not yours to turn. If you find one false, say at which input.
  Laid BY PROGRAM, IN A SANDBOX (cutbox-rows.mjs): the forced cells as the released guide's own fill.sh prints them over the translation f76c1eb95d622090… (all of the seat's roots in one cut). By AI agents, Wed Nov 11 2026. No macro, syntax, notation, axiom, sorry.
-/
import Derived.Test.YtpfmpaolgmoajaaGreatChecked
import GoSem.Claim
import GoSem.ClaimJoined
import GoSem.ClaimMapViews
import Derived.JoinedTies
import Derived.KernelRfl
namespace Go.Proofs.YtpfmpaolgmoajaaGreat
/- THE CELL 'sum', in the pinned program and in every row, IS THE sha256 OF THE DUMP (.gsa) THAT YtpfmpaolgmoajaaGreatProg.lean LOADS. Nothing in Lean hashes anything: it is a label: what it is worth is what the hold of that sum in a sandbox is worth. -/
noncomputable def Tryz.pinned : Pinned := { name := "ytpfmpaolgmoajaagreat", sum := "f76c1eb95d622090585c9e38dfa185ed86c0b6b15089d1f98a471108979f1823", checked := Tryz.checked }
namespace Rows
def none {H : Type} : Left H := { results := [], args := [] }

/-- 'flywheeltop.TopLive': WHATEVER THE INPUT: true; the input reads as it did. -/
def topLiveSpec : ChangeSpec := { name := "topLive", fn := fun _ => fun
  | [d1, d2, d3, d4] => { results := [.lit (.bool true)], args := [d1, d2, d3, d4] }
  | _ => none }
def topLiveRow : OpenClaim := { program := "ytpfmpaolgmoajaagreat", sum := "f76c1eb95d622090585c9e38dfa185ed86c0b6b15089d1f98a471108979f1823", func := "flywheel/flywheeltop.TopLive", spec := "topLive", inPlace := ["slices.overlaps[flywheel/api.Sample]", "maps.clone", "math/bits.Add64"], unfollowed := true, recurses := true, plainKeys := false, apart := false }
def TopLiveSaid : Prop := topLiveRow.holds Tryz.pinned (OpenSpec.ofChange topLiveSpec)

/-- ITS FALSE NEIGHBOUR: 'it returns false'. Refute it at one input. -/
def topLiveWrong : ChangeSpec := { name := "topLive", fn := fun _ => fun
  | [d1, d2, d3, d4] => { results := [.lit (.bool false)], args := [d1, d2, d3, d4] }
  | _ => none }
def TopLiveWrongFalsely : Prop := topLiveRow.holds Tryz.pinned (OpenSpec.ofChange topLiveWrong)

/-- 'flywheeltop.TopLinear': WHATEVER THE INPUT: true; the input reads as it did. -/
def topLinearSpec : ChangeSpec := { name := "topLinear", fn := fun _ => fun
  | [d1, d2, d3, d4] => { results := [.lit (.bool true)], args := [d1, d2, d3, d4] }
  | _ => none }
def topLinearRow : OpenClaim := { program := "ytpfmpaolgmoajaagreat", sum := "f76c1eb95d622090585c9e38dfa185ed86c0b6b15089d1f98a471108979f1823", func := "flywheel/flywheeltop.TopLinear", spec := "topLinear", inPlace := ["slices.overlaps[flywheel/api.Sample]", "maps.clone", "math/bits.Add64"], unfollowed := true, recurses := true, plainKeys := false, apart := false }
def TopLinearSaid : Prop := topLinearRow.holds Tryz.pinned (OpenSpec.ofChange topLinearSpec)

/-- ITS FALSE NEIGHBOUR: 'it returns false'. Refute it at one input. -/
def topLinearWrong : ChangeSpec := { name := "topLinear", fn := fun _ => fun
  | [d1, d2, d3, d4] => { results := [.lit (.bool false)], args := [d1, d2, d3, d4] }
  | _ => none }
def TopLinearWrongFalsely : Prop := topLinearRow.holds Tryz.pinned (OpenSpec.ofChange topLinearWrong)

/-- 'flywheeltop.TopSnaps': WHATEVER THE INPUT: true; the input reads as it did. -/
def topSnapsSpec : ChangeSpec := { name := "topSnaps", fn := fun _ => fun
  | [d1, d2, d3, d4, d5, d6] => { results := [.lit (.bool true)], args := [d1, d2, d3, d4, d5, d6] }
  | _ => none }
def topSnapsRow : OpenClaim := { program := "ytpfmpaolgmoajaagreat", sum := "f76c1eb95d622090585c9e38dfa185ed86c0b6b15089d1f98a471108979f1823", func := "flywheel/flywheeltop.TopSnaps", spec := "topSnaps", inPlace := ["slices.overlaps[flywheel/api.Sample]", "maps.clone", "math/bits.Add64"], unfollowed := true, recurses := true, plainKeys := false, apart := false }
def TopSnapsSaid : Prop := topSnapsRow.holds Tryz.pinned (OpenSpec.ofChange topSnapsSpec)

/-- ITS FALSE NEIGHBOUR: 'it returns false'. Refute it at one input. -/
def topSnapsWrong : ChangeSpec := { name := "topSnaps", fn := fun _ => fun
  | [d1, d2, d3, d4, d5, d6] => { results := [.lit (.bool false)], args := [d1, d2, d3, d4, d5, d6] }
  | _ => none }
def TopSnapsWrongFalsely : Prop := topSnapsRow.holds Tryz.pinned (OpenSpec.ofChange topSnapsWrong)

/-- 'flywheeltop.TopDecides': WHATEVER THE INPUT: true; the input reads as it did. -/
def topDecidesSpec : ChangeSpec := { name := "topDecides", fn := fun _ => fun
  | [d1, d2, d3, d4] => { results := [.lit (.bool true)], args := [d1, d2, d3, d4] }
  | _ => none }
def topDecidesRow : OpenClaim := { program := "ytpfmpaolgmoajaagreat", sum := "f76c1eb95d622090585c9e38dfa185ed86c0b6b15089d1f98a471108979f1823", func := "flywheel/flywheeltop.TopDecides", spec := "topDecides", inPlace := ["slices.overlaps[flywheel/api.Sample]", "maps.clone", "math/bits.Add64"], unfollowed := true, recurses := true, plainKeys := false, apart := false }
def TopDecidesSaid : Prop := topDecidesRow.holds Tryz.pinned (OpenSpec.ofChange topDecidesSpec)

/-- ITS FALSE NEIGHBOUR: 'it returns false'. Refute it at one input. -/
def topDecidesWrong : ChangeSpec := { name := "topDecides", fn := fun _ => fun
  | [d1, d2, d3, d4] => { results := [.lit (.bool false)], args := [d1, d2, d3, d4] }
  | _ => none }
def TopDecidesWrongFalsely : Prop := topDecidesRow.holds Tryz.pinned (OpenSpec.ofChange topDecidesWrong)

/- THE SECOND FORM. 'bulk': how many values and letters a reading holds, each counted each time it is reached (what is shared counts as often as it is met; a slice's spare places count too). A statement '..UptoSaid' is the law's where the arguments, and the package variables that the reading takes, are together of bulk at most 1048576: NARROWER than '..Said'. Prove '..Said' where nothing that the law and all that it calls make is longer than what came in: it says more and counts as full. Else prove '..UptoSaid'. A law counts once. -/
mutual
def uptoBulk {H : Type} : DataW H → Nat
  | .lit (.string bytes) => bytes.length + 1
  | .lit _ => 1
  | .nil => 1
  | .ptr d => uptoBulk d + 1
  | .slice elems spare => uptoBulkAll elems + uptoBulkAll spare + 1
  | .agg parts => uptoBulkAll parts + 1
  | .iface _ d => uptoBulk d + 1
  | .map entries => uptoBulkEntries entries + 1
  | .held _ => 1
def uptoBulkAll {H : Type} : List (DataW H) → Nat
  | [] => 0
  | d :: r => uptoBulk d + uptoBulkAll r
def uptoBulkEntries {H : Type} : List (Lit × DataW H) → Nat
  | [] => 0
  | x :: r => uptoBulkEntry x + uptoBulkEntries r
def uptoBulkEntry {H : Type} : Lit × DataW H → Nat
  | (.string bytes, d) => bytes.length + uptoBulk d + 1
  | (_, d) => uptoBulk d + 1
 end
def uptoSmall : (H : Type) → List (DataW H) → Bool := fun _ ds => decide (uptoBulkAll ds ≤ 1048576)
def OpenSpec.upto (s : _root_.Go.ChangeSpec) : _root_.Go.OpenSpec := { _root_.Go.OpenSpec.ofChange s with cond := some uptoSmall }

/-- 'flywheeltop.TopLive', WHERE WHAT IT READS IS OF BULK AT MOST 1048576: true; the input reads as it did. -/
def topLiveUptoRow : OpenClaim := { program := "ytpfmpaolgmoajaagreat", sum := "f76c1eb95d622090585c9e38dfa185ed86c0b6b15089d1f98a471108979f1823", func := "flywheel/flywheeltop.TopLive", spec := "topLive", inPlace := ["slices.overlaps[flywheel/api.Sample]", "maps.clone", "math/bits.Add64"], unfollowed := true, recurses := true, plainKeys := false, apart := false, narrowed := true }
def TopLiveUptoSaid : Prop := topLiveUptoRow.holds Tryz.pinned (OpenSpec.upto topLiveSpec)

/-- 'flywheeltop.TopLinear', WHERE WHAT IT READS IS OF BULK AT MOST 1048576: true; the input reads as it did. -/
def topLinearUptoRow : OpenClaim := { program := "ytpfmpaolgmoajaagreat", sum := "f76c1eb95d622090585c9e38dfa185ed86c0b6b15089d1f98a471108979f1823", func := "flywheel/flywheeltop.TopLinear", spec := "topLinear", inPlace := ["slices.overlaps[flywheel/api.Sample]", "maps.clone", "math/bits.Add64"], unfollowed := true, recurses := true, plainKeys := false, apart := false, narrowed := true }
def TopLinearUptoSaid : Prop := topLinearUptoRow.holds Tryz.pinned (OpenSpec.upto topLinearSpec)

/-- 'flywheeltop.TopSnaps', WHERE WHAT IT READS IS OF BULK AT MOST 1048576: true; the input reads as it did. -/
def topSnapsUptoRow : OpenClaim := { program := "ytpfmpaolgmoajaagreat", sum := "f76c1eb95d622090585c9e38dfa185ed86c0b6b15089d1f98a471108979f1823", func := "flywheel/flywheeltop.TopSnaps", spec := "topSnaps", inPlace := ["slices.overlaps[flywheel/api.Sample]", "maps.clone", "math/bits.Add64"], unfollowed := true, recurses := true, plainKeys := false, apart := false, narrowed := true }
def TopSnapsUptoSaid : Prop := topSnapsUptoRow.holds Tryz.pinned (OpenSpec.upto topSnapsSpec)

/-- 'flywheeltop.TopDecides', WHERE WHAT IT READS IS OF BULK AT MOST 1048576: true; the input reads as it did. -/
def topDecidesUptoRow : OpenClaim := { program := "ytpfmpaolgmoajaagreat", sum := "f76c1eb95d622090585c9e38dfa185ed86c0b6b15089d1f98a471108979f1823", func := "flywheel/flywheeltop.TopDecides", spec := "topDecides", inPlace := ["slices.overlaps[flywheel/api.Sample]", "maps.clone", "math/bits.Add64"], unfollowed := true, recurses := true, plainKeys := false, apart := false, narrowed := true }
def TopDecidesUptoSaid : Prop := topDecidesUptoRow.holds Tryz.pinned (OpenSpec.upto topDecidesSpec)

end Rows
end Go.Proofs.YtpfmpaolgmoajaaGreat
