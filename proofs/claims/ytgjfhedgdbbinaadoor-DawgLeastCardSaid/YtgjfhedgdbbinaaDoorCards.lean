/-
  DERIVED. GIVEN WITH THE SEED: THE CARDS: each row of YtgjfhedgdbbinaaDoorRows.lean that lists a variable, with what it lists TIED to the program's text (the seventh form; the later family's looks); each row that meets fmt, with fmt's text TOLD by the authors' own Lean function (tested against real Go, not proved from fmt's source: count such statements apart). THE CARD IS WHAT COUNTS. Prove the row's statement (the work); the ties are given (YtgjfhedgdbbinaaDoorTie.lean); close each card by the builder's one call (the guide's Derived/Test/ToyasCard.lean, 'card_holds'). Laid BY PROGRAM, IN A SANDBOX (cutbox-door.mjs). By AI agents, Wed Nov 11 2026. No macro, syntax, notation, axiom, sorry.
-/
import Derived.Test.YtgjfhedgdbbinaaDoorRows
import GoSem.ClaimSeven
namespace Go.Proofs.YtgjfhedgdbbinaaDoor
namespace Rows

/-- THE TIED CARD OF 'cedillalaw13.DawgLeast'. -/
def dawgLeastCard : Claim7 := { stood := { row := dawgLeastRow, standIns := [], harness := (true, "dd12548eb80888c3e3ffbe5eadfced694ac8b6e4c92c7b31fa021d917b8e3338"), looks := false }, kinds := [], alts := [], laidByText := true, laidKinds := [.data, .data, .data], laidTests := true, laidLooks := .later }
def DawgLeastCardSaid : Prop := Claim7.holds Tryd.pinned (.plain (OpenSpec.ofChange dawgLeastSpec)) dawgLeastCard

/-- THE TIED CARD OF 'cedillalaw13.DawgBuilds'. -/
def dawgBuildsCard : Claim7 := { stood := { row := dawgBuildsRow, standIns := [], harness := (true, "dd12548eb80888c3e3ffbe5eadfced694ac8b6e4c92c7b31fa021d917b8e3338"), looks := false }, kinds := [], alts := [], laidByText := true, laidKinds := [.data, .data, .data], laidTests := true, laidLooks := .later }
def DawgBuildsCardSaid : Prop := Claim7.holds Tryd.pinned (.plain (OpenSpec.ofChange dawgBuildsSpec)) dawgBuildsCard

/-- THE TIED CARD OF 'cedillalaw13.DawgKnown'. -/
def dawgKnownCard : Claim7 := { stood := { row := dawgKnownRow, standIns := [], harness := (true, "dd12548eb80888c3e3ffbe5eadfced694ac8b6e4c92c7b31fa021d917b8e3338"), looks := false }, kinds := [], alts := [], laidByText := true, laidKinds := [.data, .data, .data], laidTests := true, laidLooks := .later }
def DawgKnownCardSaid : Prop := Claim7.holds Tryd.pinned (.plain (OpenSpec.ofChange dawgKnownSpec)) dawgKnownCard

/-- THE SECOND FORM's CARD OF 'cedillalaw13.DawgLeast'. -/
def dawgLeastUptoCard : Claim7 := { stood := { row := dawgLeastUptoRow, standIns := [], harness := (true, "dd12548eb80888c3e3ffbe5eadfced694ac8b6e4c92c7b31fa021d917b8e3338"), looks := false }, kinds := [], alts := [], laidByText := true, laidKinds := [.data, .data, .data], laidTests := true, laidLooks := .later }
def DawgLeastUptoCardSaid : Prop := Claim7.holds Tryd.pinned (.plain (OpenSpec.upto dawgLeastSpec)) dawgLeastUptoCard

/-- THE SECOND FORM's CARD OF 'cedillalaw13.DawgBuilds'. -/
def dawgBuildsUptoCard : Claim7 := { stood := { row := dawgBuildsUptoRow, standIns := [], harness := (true, "dd12548eb80888c3e3ffbe5eadfced694ac8b6e4c92c7b31fa021d917b8e3338"), looks := false }, kinds := [], alts := [], laidByText := true, laidKinds := [.data, .data, .data], laidTests := true, laidLooks := .later }
def DawgBuildsUptoCardSaid : Prop := Claim7.holds Tryd.pinned (.plain (OpenSpec.upto dawgBuildsSpec)) dawgBuildsUptoCard

/-- THE SECOND FORM's CARD OF 'cedillalaw13.DawgKnown'. -/
def dawgKnownUptoCard : Claim7 := { stood := { row := dawgKnownUptoRow, standIns := [], harness := (true, "dd12548eb80888c3e3ffbe5eadfced694ac8b6e4c92c7b31fa021d917b8e3338"), looks := false }, kinds := [], alts := [], laidByText := true, laidKinds := [.data, .data, .data], laidTests := true, laidLooks := .later }
def DawgKnownUptoCardSaid : Prop := Claim7.holds Tryd.pinned (.plain (OpenSpec.upto dawgKnownSpec)) dawgKnownUptoCard
end Rows
end Go.Proofs.YtgjfhedgdbbinaaDoor
