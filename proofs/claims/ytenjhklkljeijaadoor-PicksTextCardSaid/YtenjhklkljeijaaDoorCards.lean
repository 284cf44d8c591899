/-
  DERIVED. GIVEN WITH THE SEED: THE CARDS: each row of YtenjhklkljeijaaDoorRows.lean that lists a variable, with what it lists TIED to the program's text (the seventh form; the later family's looks); each row that meets fmt, with fmt's text TOLD by the authors' own Lean function (tested against real Go, not proved from fmt's source: count such statements apart). THE CARD IS WHAT COUNTS. Prove the row's statement (the work); the ties are given (YtenjhklkljeijaaDoorTie.lean); close each card by the builder's one call (the guide's Derived/Test/ToyasCard.lean, 'card_holds'). Laid BY PROGRAM, IN A SANDBOX (cutbox-door.mjs). By AI agents, Wed Nov 11 2026. No macro, syntax, notation, axiom, sorry.
-/
import Derived.Test.YtenjhklkljeijaaDoorRows
import GoSem.ClaimSeven
namespace Go.Proofs.YtenjhklkljeijaaDoor
namespace Rows

/-- THE TIED CARD OF 'flywheellaw28.PicksMake'. -/
def picksMakeCard : Claim7 := { stood := { row := picksMakeRow, standIns := [], harness := (true, "847f5ec2bbc4e3c1996f06318f70b6372ac8817946bf02f449048137de2a1105"), looks := true }, kinds := [], alts := [], laidByText := true, laidKinds := [.data, .data, .data, .data, .sentinel, .sentinel, .pinned], laidTests := true, laidLooks := .later }
def PicksMakeCardSaid : Prop := Claim7.holds Tryd.pinned (.plain (OpenSpec.ofChange picksMakeSpec)) picksMakeCard

/-- THE TIED CARD OF 'flywheellaw28.PicksEven'. -/
def picksEvenCard : Claim7 := { stood := { row := picksEvenRow, standIns := [], harness := (true, "847f5ec2bbc4e3c1996f06318f70b6372ac8817946bf02f449048137de2a1105"), looks := true }, kinds := [], alts := [], laidByText := true, laidKinds := [.data, .data, .data, .data, .sentinel, .sentinel, .pinned], laidTests := true, laidLooks := .later }
def PicksEvenCardSaid : Prop := Claim7.holds Tryd.pinned (.plain (OpenSpec.ofChange picksEvenSpec)) picksEvenCard

/-- THE TIED CARD OF 'flywheellaw28.PicksTell'. -/
def picksTellCard : Claim7 := { stood := { row := picksTellRow, standIns := [], harness := (true, "847f5ec2bbc4e3c1996f06318f70b6372ac8817946bf02f449048137de2a1105"), looks := true }, kinds := [], alts := [], laidByText := true, laidKinds := [.data, .data, .data, .data, .sentinel, .sentinel, .pinned], laidTests := true, laidLooks := .later }
def PicksTellCardSaid : Prop := Claim7.holds Tryd.pinned (.plain (OpenSpec.ofChange picksTellSpec)) picksTellCard

/-- THE TIED CARD OF 'flywheellaw28.PicksText'. -/
def picksTextCard : Claim7 := { stood := { row := picksTextRow, standIns := [], harness := (true, "847f5ec2bbc4e3c1996f06318f70b6372ac8817946bf02f449048137de2a1105"), looks := true }, kinds := [], alts := [], laidByText := true, laidKinds := [.data, .data, .data, .data, .sentinel, .sentinel, .pinned], laidTests := true, laidLooks := .later }
def PicksTextCardSaid : Prop := Claim7.holds Tryd.pinned (.plain (OpenSpec.ofChange picksTextSpec)) picksTextCard

/-- THE SECOND FORM's CARD OF 'flywheellaw28.PicksMake'. -/
def picksMakeUptoCard : Claim7 := { stood := { row := picksMakeUptoRow, standIns := [], harness := (true, "847f5ec2bbc4e3c1996f06318f70b6372ac8817946bf02f449048137de2a1105"), looks := true }, kinds := [], alts := [], laidByText := true, laidKinds := [.data, .data, .data, .data, .sentinel, .sentinel, .pinned], laidTests := true, laidLooks := .later }
def PicksMakeUptoCardSaid : Prop := Claim7.holds Tryd.pinned (.plain (OpenSpec.upto picksMakeSpec)) picksMakeUptoCard

/-- THE SECOND FORM's CARD OF 'flywheellaw28.PicksEven'. -/
def picksEvenUptoCard : Claim7 := { stood := { row := picksEvenUptoRow, standIns := [], harness := (true, "847f5ec2bbc4e3c1996f06318f70b6372ac8817946bf02f449048137de2a1105"), looks := true }, kinds := [], alts := [], laidByText := true, laidKinds := [.data, .data, .data, .data, .sentinel, .sentinel, .pinned], laidTests := true, laidLooks := .later }
def PicksEvenUptoCardSaid : Prop := Claim7.holds Tryd.pinned (.plain (OpenSpec.upto picksEvenSpec)) picksEvenUptoCard

/-- THE SECOND FORM's CARD OF 'flywheellaw28.PicksTell'. -/
def picksTellUptoCard : Claim7 := { stood := { row := picksTellUptoRow, standIns := [], harness := (true, "847f5ec2bbc4e3c1996f06318f70b6372ac8817946bf02f449048137de2a1105"), looks := true }, kinds := [], alts := [], laidByText := true, laidKinds := [.data, .data, .data, .data, .sentinel, .sentinel, .pinned], laidTests := true, laidLooks := .later }
def PicksTellUptoCardSaid : Prop := Claim7.holds Tryd.pinned (.plain (OpenSpec.upto picksTellSpec)) picksTellUptoCard

/-- THE SECOND FORM's CARD OF 'flywheellaw28.PicksText'. -/
def picksTextUptoCard : Claim7 := { stood := { row := picksTextUptoRow, standIns := [], harness := (true, "847f5ec2bbc4e3c1996f06318f70b6372ac8817946bf02f449048137de2a1105"), looks := true }, kinds := [], alts := [], laidByText := true, laidKinds := [.data, .data, .data, .data, .sentinel, .sentinel, .pinned], laidTests := true, laidLooks := .later }
def PicksTextUptoCardSaid : Prop := Claim7.holds Tryd.pinned (.plain (OpenSpec.upto picksTextSpec)) picksTextUptoCard
end Rows
end Go.Proofs.YtenjhklkljeijaaDoor
