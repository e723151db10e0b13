/-
  DERIVED. GIVEN WITH THE SEED: THE CARDS: each row of YthkgjhjfgoglhaaDoorRows.lean that lists a variable, with what it lists TIED to the program's text (the seventh form; the later family's looks); each row that meets fmt, with fmt's text TOLD by the authors' own Lean function (tested against real Go, not proved from fmt's source: count such statements apart). THE CARD IS WHAT COUNTS. Prove the row's statement (the work); the ties are given (YthkgjhjfgoglhaaDoorTie.lean); close each card by the builder's one call (the guide's Derived/Test/ToyasCard.lean, 'card_holds'). Laid BY PROGRAM, IN A SANDBOX (cutbox-door.mjs). By AI agents, Wed Nov 11 2026. No macro, syntax, notation, axiom, sorry.
-/
import Derived.Test.YthkgjhjfgoglhaaDoorRows
import GoSem.ClaimSeven
namespace Go.Proofs.YthkgjhjfgoglhaaDoor
namespace Rows

/-- THE TIED CARD OF 'trefoillaw24.BitmulDraws'. -/
def bitmulDrawsCard : Claim7 := { stood := { row := bitmulDrawsRow, standIns := [], harness := (true, "2b08f3d7d172e7c36ed55eb02393a3fa16676b784711f16b073c184541e5593d"), looks := true }, kinds := [], alts := [], laidByText := true, laidKinds := [.handle], laidTests := true, laidLooks := .later }
def BitmulDrawsCardSaid : Prop := Claim7.holds Tryd.pinned (.plain (OpenSpec.ofChange bitmulDrawsSpec)) bitmulDrawsCard

/-- THE SECOND FORM's CARD OF 'trefoillaw24.BitmulDraws'. -/
def bitmulDrawsUptoCard : Claim7 := { stood := { row := bitmulDrawsUptoRow, standIns := [], harness := (true, "2b08f3d7d172e7c36ed55eb02393a3fa16676b784711f16b073c184541e5593d"), looks := true }, kinds := [], alts := [], laidByText := true, laidKinds := [.handle], laidTests := true, laidLooks := .later }
def BitmulDrawsUptoCardSaid : Prop := Claim7.holds Tryd.pinned (.plain (OpenSpec.upto bitmulDrawsSpec)) bitmulDrawsUptoCard
end Rows
end Go.Proofs.YthkgjhjfgoglhaaDoor
