/-
  DERIVED. GIVEN WITH THE SEED: THE CARDS: each row of YtcmnlnnhebdblaaDoorRows.lean that lists a variable, with what it lists TIED to the program's text (the seventh form; the later family's looks); each row that meets fmt, with fmt's text TOLD by the authors' own Lean function (tested against real Go, not proved from fmt's source: count such statements apart). THE CARD IS WHAT COUNTS. Prove the row's statement (the work); the ties are given (YtcmnlnnhebdblaaDoorTie.lean); close each card by the builder's one call (the guide's Derived/Test/ToyasCard.lean, 'card_holds'). Laid BY PROGRAM, IN A SANDBOX (cutbox-door.mjs). By AI agents, Wed Nov 11 2026. No macro, syntax, notation, axiom, sorry.
-/
import Derived.Test.YtcmnlnnhebdblaaDoorRows
import GoSem.ClaimSeven
namespace Go.Proofs.YtcmnlnnhebdblaaDoor
namespace Rows

/-- THE TIED CARD OF 'flywheellaw54.ShapeTexts'. -/
def shapeTextsCard : Claim7 := { stood := { row := shapeTextsRow, standIns := [], harness := (true, "e996c1665e2cfc6e6780de07d537247808c633160f0511e3c85daafa726e67dd"), looks := true }, kinds := [], alts := [], laidByText := true, laidKinds := [.data, .data, .data, .data, .sentinel, .sentinel, .pinned], laidTests := true, laidLooks := .later }
def ShapeTextsCardSaid : Prop := Claim7.holds Tryd.pinned (.plain (OpenSpec.ofChange shapeTextsSpec)) shapeTextsCard

/-- THE TIED CARD OF 'flywheellaw54.ShapeSums'. -/
def shapeSumsCard : Claim7 := { stood := { row := shapeSumsRow, standIns := [], harness := (true, "e996c1665e2cfc6e6780de07d537247808c633160f0511e3c85daafa726e67dd"), looks := true }, kinds := [], alts := [], laidByText := true, laidKinds := [.data, .data, .data, .data, .sentinel, .sentinel, .pinned], laidTests := true, laidLooks := .later }
def ShapeSumsCardSaid : Prop := Claim7.holds Tryd.pinned (.plain (OpenSpec.ofChange shapeSumsSpec)) shapeSumsCard

/-- THE SECOND FORM's CARD OF 'flywheellaw54.ShapeTexts'. -/
def shapeTextsUptoCard : Claim7 := { stood := { row := shapeTextsUptoRow, standIns := [], harness := (true, "e996c1665e2cfc6e6780de07d537247808c633160f0511e3c85daafa726e67dd"), looks := true }, kinds := [], alts := [], laidByText := true, laidKinds := [.data, .data, .data, .data, .sentinel, .sentinel, .pinned], laidTests := true, laidLooks := .later }
def ShapeTextsUptoCardSaid : Prop := Claim7.holds Tryd.pinned (.plain (OpenSpec.upto shapeTextsSpec)) shapeTextsUptoCard

/-- THE SECOND FORM's CARD OF 'flywheellaw54.ShapeSums'. -/
def shapeSumsUptoCard : Claim7 := { stood := { row := shapeSumsUptoRow, standIns := [], harness := (true, "e996c1665e2cfc6e6780de07d537247808c633160f0511e3c85daafa726e67dd"), looks := true }, kinds := [], alts := [], laidByText := true, laidKinds := [.data, .data, .data, .data, .sentinel, .sentinel, .pinned], laidTests := true, laidLooks := .later }
def ShapeSumsUptoCardSaid : Prop := Claim7.holds Tryd.pinned (.plain (OpenSpec.upto shapeSumsSpec)) shapeSumsUptoCard
end Rows
end Go.Proofs.YtcmnlnnhebdblaaDoor
