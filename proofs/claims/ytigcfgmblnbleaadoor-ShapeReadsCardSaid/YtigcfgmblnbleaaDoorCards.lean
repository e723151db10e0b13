/-
  DERIVED. GIVEN WITH THE SEED: THE CARDS: each row of YtigcfgmblnbleaaDoorRows.lean that lists a variable, with what it lists TIED to the program's text (the seventh form; the later family's looks); each row that meets fmt, with fmt's text TOLD by the authors' own Lean function (tested against real Go, not proved from fmt's source: count such statements apart). THE CARD IS WHAT COUNTS. Prove the row's statement (the work); the ties are given (YtigcfgmblnbleaaDoorTie.lean); close each card by the builder's one call (the guide's Derived/Test/ToyasCard.lean, 'card_holds'). Laid BY PROGRAM, IN A SANDBOX (cutbox-door.mjs). By AI agents, Wed Nov 11 2026. No macro, syntax, notation, axiom, sorry.
-/
import Derived.Test.YtigcfgmblnbleaaDoorRows
import GoSem.ClaimSeven
namespace Go.Proofs.YtigcfgmblnbleaaDoor
namespace Rows

/-- THE TIED CARD OF 'trefoillaw09.ShapeChecks'. -/
def shapeChecksCard : Claim7 := { stood := { row := shapeChecksRow, standIns := [], harness := (true, "70900fef2c4ee3b84d4fd99180043c25443e50da007a257c4cd0e1a234fb3f91"), looks := true }, kinds := [], alts := [], laidByText := true, laidKinds := [.data, .pinned], laidTests := true, laidLooks := .later }
def ShapeChecksCardSaid : Prop := Claim7.holds Tryd.pinned (.plain (OpenSpec.ofChange shapeChecksSpec)) shapeChecksCard

/-- THE TIED CARD OF 'trefoillaw09.ShapeNames'. -/
def shapeNamesCard : Claim7 := { stood := { row := shapeNamesRow, standIns := [], harness := (true, "70900fef2c4ee3b84d4fd99180043c25443e50da007a257c4cd0e1a234fb3f91"), looks := true }, kinds := [], alts := [], laidByText := true, laidKinds := [.data, .pinned], laidTests := true, laidLooks := .later }
def ShapeNamesCardSaid : Prop := Claim7.holds Tryd.pinned (.plain (OpenSpec.ofChange shapeNamesSpec)) shapeNamesCard

/-- THE TIED CARD OF 'trefoillaw09.ShapeBack'. -/
def shapeBackCard : Claim7 := { stood := { row := shapeBackRow, standIns := [], harness := (true, "70900fef2c4ee3b84d4fd99180043c25443e50da007a257c4cd0e1a234fb3f91"), looks := true }, kinds := [], alts := [], laidByText := true, laidKinds := [.data, .pinned], laidTests := true, laidLooks := .later }
def ShapeBackCardSaid : Prop := Claim7.holds Tryd.pinned (.plain (OpenSpec.ofChange shapeBackSpec)) shapeBackCard

/-- THE TIED CARD OF 'trefoillaw09.ShapeFits'. -/
def shapeFitsCard : Claim7 := { stood := { row := shapeFitsRow, standIns := [], harness := (true, "70900fef2c4ee3b84d4fd99180043c25443e50da007a257c4cd0e1a234fb3f91"), looks := true }, kinds := [], alts := [], laidByText := true, laidKinds := [.data, .pinned], laidTests := true, laidLooks := .later }
def ShapeFitsCardSaid : Prop := Claim7.holds Tryd.pinned (.plain (OpenSpec.ofChange shapeFitsSpec)) shapeFitsCard

/-- THE TIED CARD OF 'trefoillaw09.ShapeOrders'. -/
def shapeOrdersCard : Claim7 := { stood := { row := shapeOrdersRow, standIns := [], harness := (true, "70900fef2c4ee3b84d4fd99180043c25443e50da007a257c4cd0e1a234fb3f91"), looks := true }, kinds := [], alts := [], laidByText := true, laidKinds := [.data, .pinned], laidTests := true, laidLooks := .later }
def ShapeOrdersCardSaid : Prop := Claim7.holds Tryd.pinned (.plain (OpenSpec.ofChange shapeOrdersSpec)) shapeOrdersCard

/-- THE TIED CARD OF 'trefoillaw09.ShapeReads'. -/
def shapeReadsCard : Claim7 := { stood := { row := shapeReadsRow, standIns := [], harness := (true, "70900fef2c4ee3b84d4fd99180043c25443e50da007a257c4cd0e1a234fb3f91"), looks := true }, kinds := [], alts := [], laidByText := true, laidKinds := [.data, .handle, .pinned], laidTests := true, laidLooks := .later }
def ShapeReadsCardSaid : Prop := Claim7.holds Tryd.pinned (.plain (OpenSpec.ofChange shapeReadsSpec)) shapeReadsCard

/-- THE SECOND FORM's CARD OF 'trefoillaw09.ShapeChecks'. -/
def shapeChecksUptoCard : Claim7 := { stood := { row := shapeChecksUptoRow, standIns := [], harness := (true, "70900fef2c4ee3b84d4fd99180043c25443e50da007a257c4cd0e1a234fb3f91"), looks := true }, kinds := [], alts := [], laidByText := true, laidKinds := [.data, .pinned], laidTests := true, laidLooks := .later }
def ShapeChecksUptoCardSaid : Prop := Claim7.holds Tryd.pinned (.plain (OpenSpec.upto shapeChecksSpec)) shapeChecksUptoCard

/-- THE SECOND FORM's CARD OF 'trefoillaw09.ShapeNames'. -/
def shapeNamesUptoCard : Claim7 := { stood := { row := shapeNamesUptoRow, standIns := [], harness := (true, "70900fef2c4ee3b84d4fd99180043c25443e50da007a257c4cd0e1a234fb3f91"), looks := true }, kinds := [], alts := [], laidByText := true, laidKinds := [.data, .pinned], laidTests := true, laidLooks := .later }
def ShapeNamesUptoCardSaid : Prop := Claim7.holds Tryd.pinned (.plain (OpenSpec.upto shapeNamesSpec)) shapeNamesUptoCard

/-- THE SECOND FORM's CARD OF 'trefoillaw09.ShapeBack'. -/
def shapeBackUptoCard : Claim7 := { stood := { row := shapeBackUptoRow, standIns := [], harness := (true, "70900fef2c4ee3b84d4fd99180043c25443e50da007a257c4cd0e1a234fb3f91"), looks := true }, kinds := [], alts := [], laidByText := true, laidKinds := [.data, .pinned], laidTests := true, laidLooks := .later }
def ShapeBackUptoCardSaid : Prop := Claim7.holds Tryd.pinned (.plain (OpenSpec.upto shapeBackSpec)) shapeBackUptoCard

/-- THE SECOND FORM's CARD OF 'trefoillaw09.ShapeFits'. -/
def shapeFitsUptoCard : Claim7 := { stood := { row := shapeFitsUptoRow, standIns := [], harness := (true, "70900fef2c4ee3b84d4fd99180043c25443e50da007a257c4cd0e1a234fb3f91"), looks := true }, kinds := [], alts := [], laidByText := true, laidKinds := [.data, .pinned], laidTests := true, laidLooks := .later }
def ShapeFitsUptoCardSaid : Prop := Claim7.holds Tryd.pinned (.plain (OpenSpec.upto shapeFitsSpec)) shapeFitsUptoCard

/-- THE SECOND FORM's CARD OF 'trefoillaw09.ShapeOrders'. -/
def shapeOrdersUptoCard : Claim7 := { stood := { row := shapeOrdersUptoRow, standIns := [], harness := (true, "70900fef2c4ee3b84d4fd99180043c25443e50da007a257c4cd0e1a234fb3f91"), looks := true }, kinds := [], alts := [], laidByText := true, laidKinds := [.data, .pinned], laidTests := true, laidLooks := .later }
def ShapeOrdersUptoCardSaid : Prop := Claim7.holds Tryd.pinned (.plain (OpenSpec.upto shapeOrdersSpec)) shapeOrdersUptoCard

/-- THE SECOND FORM's CARD OF 'trefoillaw09.ShapeReads'. -/
def shapeReadsUptoCard : Claim7 := { stood := { row := shapeReadsUptoRow, standIns := [], harness := (true, "70900fef2c4ee3b84d4fd99180043c25443e50da007a257c4cd0e1a234fb3f91"), looks := true }, kinds := [], alts := [], laidByText := true, laidKinds := [.data, .handle, .pinned], laidTests := true, laidLooks := .later }
def ShapeReadsUptoCardSaid : Prop := Claim7.holds Tryd.pinned (.plain (OpenSpec.upto shapeReadsSpec)) shapeReadsUptoCard
end Rows
end Go.Proofs.YtigcfgmblnbleaaDoor
