/-
  DERIVED. GIVEN WITH THE SEED: THE CARDS: each row of YtnmbhhkdiegemaaDoorRows.lean that lists a variable, with what it lists TIED to the program's text (the seventh form; the later family's looks); each row that meets fmt, with fmt's text TOLD by the authors' own Lean function (tested against real Go, not proved from fmt's source: count such statements apart). THE CARD IS WHAT COUNTS. Prove the row's statement (the work); the ties are given (YtnmbhhkdiegemaaDoorTie.lean); close each card by the builder's one call (the guide's Derived/Test/ToyasCard.lean, 'card_holds'). Laid BY PROGRAM, IN A SANDBOX (cutbox-door.mjs). By AI agents, Wed Nov 11 2026. No macro, syntax, notation, axiom, sorry.
-/
import Derived.Test.YtnmbhhkdiegemaaDoorRows
import GoSem.ClaimSeven
namespace Go.Proofs.YtnmbhhkdiegemaaDoor
namespace Rows

/-- THE TIED CARD OF 'cardexlaw13.ShapeDigits'. -/
def shapeDigitsCard : Claim7 := { stood := { row := shapeDigitsRow, standIns := [], harness := (true, "e865c0f64a2982852f1aa34f38c64cd74cc8e29d1b0ac737dcd4a3e2f77a3c2c"), looks := false }, kinds := [], alts := [], laidByText := true, laidKinds := [.data, .data, .data], laidTests := true, laidLooks := .later }
def ShapeDigitsCardSaid : Prop := Claim7.holds Tryd.pinned (.plain (OpenSpec.ofChange shapeDigitsSpec)) shapeDigitsCard

/-- THE TIED CARD OF 'cardexlaw13.ShapeMakes'. -/
def shapeMakesCard : Claim7 := { stood := { row := shapeMakesRow, standIns := [], harness := (true, "e865c0f64a2982852f1aa34f38c64cd74cc8e29d1b0ac737dcd4a3e2f77a3c2c"), looks := false }, kinds := [], alts := [], laidByText := true, laidKinds := [.data, .data, .data], laidTests := true, laidLooks := .later }
def ShapeMakesCardSaid : Prop := Claim7.holds Tryd.pinned (.plain (OpenSpec.ofChange shapeMakesSpec)) shapeMakesCard

/-- THE TIED CARD OF 'cardexlaw13.ShapeFresh'. -/
def shapeFreshCard : Claim7 := { stood := { row := shapeFreshRow, standIns := [], harness := (true, "e865c0f64a2982852f1aa34f38c64cd74cc8e29d1b0ac737dcd4a3e2f77a3c2c"), looks := false }, kinds := [], alts := [], laidByText := true, laidKinds := [.data, .data, .data], laidTests := true, laidLooks := .later }
def ShapeFreshCardSaid : Prop := Claim7.holds Tryd.pinned (.plain (OpenSpec.ofChange shapeFreshSpec)) shapeFreshCard

/-- THE SECOND FORM's CARD OF 'cardexlaw13.ShapeDigits'. -/
def shapeDigitsUptoCard : Claim7 := { stood := { row := shapeDigitsUptoRow, standIns := [], harness := (true, "e865c0f64a2982852f1aa34f38c64cd74cc8e29d1b0ac737dcd4a3e2f77a3c2c"), looks := false }, kinds := [], alts := [], laidByText := true, laidKinds := [.data, .data, .data], laidTests := true, laidLooks := .later }
def ShapeDigitsUptoCardSaid : Prop := Claim7.holds Tryd.pinned (.plain (OpenSpec.upto shapeDigitsSpec)) shapeDigitsUptoCard

/-- THE SECOND FORM's CARD OF 'cardexlaw13.ShapeMakes'. -/
def shapeMakesUptoCard : Claim7 := { stood := { row := shapeMakesUptoRow, standIns := [], harness := (true, "e865c0f64a2982852f1aa34f38c64cd74cc8e29d1b0ac737dcd4a3e2f77a3c2c"), looks := false }, kinds := [], alts := [], laidByText := true, laidKinds := [.data, .data, .data], laidTests := true, laidLooks := .later }
def ShapeMakesUptoCardSaid : Prop := Claim7.holds Tryd.pinned (.plain (OpenSpec.upto shapeMakesSpec)) shapeMakesUptoCard

/-- THE SECOND FORM's CARD OF 'cardexlaw13.ShapeFresh'. -/
def shapeFreshUptoCard : Claim7 := { stood := { row := shapeFreshUptoRow, standIns := [], harness := (true, "e865c0f64a2982852f1aa34f38c64cd74cc8e29d1b0ac737dcd4a3e2f77a3c2c"), looks := false }, kinds := [], alts := [], laidByText := true, laidKinds := [.data, .data, .data], laidTests := true, laidLooks := .later }
def ShapeFreshUptoCardSaid : Prop := Claim7.holds Tryd.pinned (.plain (OpenSpec.upto shapeFreshSpec)) shapeFreshUptoCard
end Rows
end Go.Proofs.YtnmbhhkdiegemaaDoor
