/-
  DERIVED. GIVEN WITH THE SEED: THE CARDS: each row of YtdkbgbdgmihlmaaGreatDoorRows.lean that lists a variable, with what it lists TIED to the program's text (the seventh form; the later family's looks); each row that meets fmt, with fmt's text TOLD by the authors' own Lean function (tested against real Go, not proved from fmt's source: count such statements apart). THE CARD IS WHAT COUNTS. Prove the row's statement (the work); the ties are given (YtdkbgbdgmihlmaaGreatDoorTie.lean); close each card by the builder's one call (the guide's Derived/Test/ToyasCard.lean, 'card_holds'). Laid BY PROGRAM, IN A SANDBOX (cutbox-door.mjs). By AI agents, Wed Nov 11 2026. No macro, syntax, notation, axiom, sorry.
-/
import Derived.Test.YtdkbgbdgmihlmaaGreatDoorRows
import GoSem.ClaimSeven
namespace Go.Proofs.YtdkbgbdgmihlmaaGreatDoor
namespace Rows

/-- THE TIED CARD OF 'cedillalaw15.PackSmall'. -/
def packSmallCard : Claim7 := { stood := { row := packSmallRow, standIns := [], harness := (true, "d06551a8dce4bd2d9c7ebb9262f0947bf6efa0855a1f23293c03a2da0cec52d5"), looks := true }, kinds := [], alts := [], laidByText := true, laidKinds := [.data, .data, .data, .handle], laidTests := true, laidLooks := .later }
def PackSmallCardSaid : Prop := Claim7.holds Tryz.pinned (.plain (OpenSpec.ofChange packSmallSpec)) packSmallCard

/-- THE SECOND FORM's CARD OF 'cedillalaw15.PackSmall'. -/
def packSmallUptoCard : Claim7 := { stood := { row := packSmallUptoRow, standIns := [], harness := (true, "d06551a8dce4bd2d9c7ebb9262f0947bf6efa0855a1f23293c03a2da0cec52d5"), looks := true }, kinds := [], alts := [], laidByText := true, laidKinds := [.data, .data, .data, .handle], laidTests := true, laidLooks := .later }
def PackSmallUptoCardSaid : Prop := Claim7.holds Tryz.pinned (.plain (OpenSpec.upto packSmallSpec)) packSmallUptoCard
end Rows
end Go.Proofs.YtdkbgbdgmihlmaaGreatDoor
