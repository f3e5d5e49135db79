/-
  DERIVED. GIVEN WITH THE SEED: THE CARDS: each row of YtcddnmhmcieebaaGreatDoorRows.lean that lists a variable, with what it lists TIED to the program's text (the seventh form; the later family's looks); each row that meets fmt, with fmt's text TOLD by the authors' own Lean function (tested against real Go, not proved from fmt's source: count such statements apart). THE CARD IS WHAT COUNTS. Prove the row's statement (the work); the ties are given (YtcddnmhmcieebaaGreatDoorTie.lean); close each card by the builder's one call (the guide's Derived/Test/ToyasCard.lean, 'card_holds'). Laid BY PROGRAM, IN A SANDBOX (cutbox-door.mjs). By AI agents, Wed Nov 11 2026. No macro, syntax, notation, axiom, sorry.
-/
import Derived.Test.YtcddnmhmcieebaaGreatDoorRows
import GoSem.ClaimSeven
namespace Go.Proofs.YtcddnmhmcieebaaGreatDoor
namespace Rows

/-- THE TIED CARD OF 'cedillalaw16.SegmentBurst'. -/
def segmentBurstCard : Claim7 := { stood := { row := segmentBurstRow, standIns := [], harness := (true, "a5b4b35365159a1bd52e29224586d473c2fa61a37fd6909bfafd9f25cf212676"), looks := true }, kinds := [], alts := [], laidByText := true, laidKinds := [.data, .data, .data], laidTests := true, laidLooks := .later }
def SegmentBurstCardSaid : Prop := Claim7.holds Tryz.pinned (.plain (OpenSpec.ofChange segmentBurstSpec)) segmentBurstCard

/-- THE TIED CARD OF 'cedillalaw16.SegmentOne'. -/
def segmentOneCard : Claim7 := { stood := { row := segmentOneRow, standIns := [], harness := (true, "a5b4b35365159a1bd52e29224586d473c2fa61a37fd6909bfafd9f25cf212676"), looks := true }, kinds := [], alts := [], laidByText := true, laidKinds := [.data, .data, .data], laidTests := true, laidLooks := .later }
def SegmentOneCardSaid : Prop := Claim7.holds Tryz.pinned (.plain (OpenSpec.ofChange segmentOneSpec)) segmentOneCard

/-- THE TIED CARD OF 'cedillalaw16.SegmentFsts'. -/
def segmentFstsCard : Claim7 := { stood := { row := segmentFstsRow, standIns := [], harness := (true, "a5b4b35365159a1bd52e29224586d473c2fa61a37fd6909bfafd9f25cf212676"), looks := true }, kinds := [], alts := [], laidByText := true, laidKinds := [.data, .data, .data], laidTests := true, laidLooks := .later }
def SegmentFstsCardSaid : Prop := Claim7.holds Tryz.pinned (.plain (OpenSpec.ofChange segmentFstsSpec)) segmentFstsCard

/-- THE TIED CARD OF 'cedillalaw16.SegmentBack'. -/
def segmentBackCard : Claim7 := { stood := { row := segmentBackRow, standIns := [], harness := (true, "a5b4b35365159a1bd52e29224586d473c2fa61a37fd6909bfafd9f25cf212676"), looks := true }, kinds := [], alts := [], laidByText := true, laidKinds := [.data, .data, .data], laidTests := true, laidLooks := .later }
def SegmentBackCardSaid : Prop := Claim7.holds Tryz.pinned (.plain (OpenSpec.ofChange segmentBackSpec)) segmentBackCard

/-- THE TIED CARD OF 'cedillalaw16.SegmentKnown'. -/
def segmentKnownCard : Claim7 := { stood := { row := segmentKnownRow, standIns := [], harness := (true, "a5b4b35365159a1bd52e29224586d473c2fa61a37fd6909bfafd9f25cf212676"), looks := true }, kinds := [], alts := [], laidByText := true, laidKinds := [.data, .data, .data], laidTests := true, laidLooks := .later }
def SegmentKnownCardSaid : Prop := Claim7.holds Tryz.pinned (.plain (OpenSpec.ofChange segmentKnownSpec)) segmentKnownCard

/-- THE SECOND FORM's CARD OF 'cedillalaw16.SegmentBurst'. -/
def segmentBurstUptoCard : Claim7 := { stood := { row := segmentBurstUptoRow, standIns := [], harness := (true, "a5b4b35365159a1bd52e29224586d473c2fa61a37fd6909bfafd9f25cf212676"), looks := true }, kinds := [], alts := [], laidByText := true, laidKinds := [.data, .data, .data], laidTests := true, laidLooks := .later }
def SegmentBurstUptoCardSaid : Prop := Claim7.holds Tryz.pinned (.plain (OpenSpec.upto segmentBurstSpec)) segmentBurstUptoCard

/-- THE SECOND FORM's CARD OF 'cedillalaw16.SegmentOne'. -/
def segmentOneUptoCard : Claim7 := { stood := { row := segmentOneUptoRow, standIns := [], harness := (true, "a5b4b35365159a1bd52e29224586d473c2fa61a37fd6909bfafd9f25cf212676"), looks := true }, kinds := [], alts := [], laidByText := true, laidKinds := [.data, .data, .data], laidTests := true, laidLooks := .later }
def SegmentOneUptoCardSaid : Prop := Claim7.holds Tryz.pinned (.plain (OpenSpec.upto segmentOneSpec)) segmentOneUptoCard

/-- THE SECOND FORM's CARD OF 'cedillalaw16.SegmentFsts'. -/
def segmentFstsUptoCard : Claim7 := { stood := { row := segmentFstsUptoRow, standIns := [], harness := (true, "a5b4b35365159a1bd52e29224586d473c2fa61a37fd6909bfafd9f25cf212676"), looks := true }, kinds := [], alts := [], laidByText := true, laidKinds := [.data, .data, .data], laidTests := true, laidLooks := .later }
def SegmentFstsUptoCardSaid : Prop := Claim7.holds Tryz.pinned (.plain (OpenSpec.upto segmentFstsSpec)) segmentFstsUptoCard

/-- THE SECOND FORM's CARD OF 'cedillalaw16.SegmentBack'. -/
def segmentBackUptoCard : Claim7 := { stood := { row := segmentBackUptoRow, standIns := [], harness := (true, "a5b4b35365159a1bd52e29224586d473c2fa61a37fd6909bfafd9f25cf212676"), looks := true }, kinds := [], alts := [], laidByText := true, laidKinds := [.data, .data, .data], laidTests := true, laidLooks := .later }
def SegmentBackUptoCardSaid : Prop := Claim7.holds Tryz.pinned (.plain (OpenSpec.upto segmentBackSpec)) segmentBackUptoCard

/-- THE SECOND FORM's CARD OF 'cedillalaw16.SegmentKnown'. -/
def segmentKnownUptoCard : Claim7 := { stood := { row := segmentKnownUptoRow, standIns := [], harness := (true, "a5b4b35365159a1bd52e29224586d473c2fa61a37fd6909bfafd9f25cf212676"), looks := true }, kinds := [], alts := [], laidByText := true, laidKinds := [.data, .data, .data], laidTests := true, laidLooks := .later }
def SegmentKnownUptoCardSaid : Prop := Claim7.holds Tryz.pinned (.plain (OpenSpec.upto segmentKnownSpec)) segmentKnownUptoCard
end Rows
end Go.Proofs.YtcddnmhmcieebaaGreatDoor
