/-
  No cell of these rows narrows 'for every input' (looked for: loops, veiled, ifaces, maps, wideKeys, modest, calm, conditions, laid).
  DERIVED. THE GIVEN ROWS OF THIS SEAT. 6 by the template 'for every input the law returns true; each argument reads behind the call as it read before'; 0 by the template 'total and deterministic' (their statements: YtdlcnpjdloinnaaTotals.lean).
  GIVEN WITH THE SEED: the statements are not yours to turn. If you find one false, say at which input.
  Laid BY PROGRAM, IN A SANDBOX (cutbox-rows.mjs): the forced cells as the released guide's own fill.sh prints them over the translation 7b21354654c065e3… (all of the seat's roots in one cut). By AI agents, Wed Nov 11 2026. No macro, syntax, notation, axiom, sorry.
-/
import Derived.Test.YtdlcnpjdloinnaaChecked
import GoSem.Claim
import GoSem.ClaimJoined
import GoSem.ClaimMapViews
import Derived.JoinedTies
import Derived.KernelRfl
namespace Go.Proofs.Ytdlcnpjdloinnaa
/- THE CELL 'sum', in the pinned program and in every row, IS THE sha256 OF THE DUMP (.gsa) THAT YtdlcnpjdloinnaaProg.lean LOADS. Nothing in Lean hashes anything: it is a label: what it is worth is what the hold of that sum in a sandbox is worth. -/
noncomputable def Try.pinned : Pinned := { name := "ytdlcnpjdloinnaa", sum := "7b21354654c065e3424a6ade8e02138a58ff26696bfba07fce3ae0052edb23be", checked := Try.checked }
namespace Rows
def none {H : Type} : Left H := { results := [], args := [] }

/-- 'cedillalaw22.MergeNewest': WHATEVER THE INPUT: true; the input reads as it did. -/
def mergeNewestSpec : ChangeSpec := { name := "mergeNewest", fn := fun _ => fun
  | [d] => { results := [.lit (.bool true)], args := [d] }
  | _ => none }
def mergeNewestRow : OpenClaim := { program := "ytdlcnpjdloinnaa", sum := "7b21354654c065e3424a6ade8e02138a58ff26696bfba07fce3ae0052edb23be", func := "cedilla/cedillalaw22.MergeNewest", spec := "mergeNewest", unfollowed := true, recurses := true, apart := false }
def MergeNewestSaid : Prop := mergeNewestRow.holds Try.pinned (OpenSpec.ofChange mergeNewestSpec)

/-- ITS FALSE NEIGHBOUR: 'it returns false'. Refute it at one input. -/
def mergeNewestWrong : ChangeSpec := { name := "mergeNewest", fn := fun _ => fun
  | [d] => { results := [.lit (.bool false)], args := [d] }
  | _ => none }
def MergeNewestWrongFalsely : Prop := mergeNewestRow.holds Try.pinned (OpenSpec.ofChange mergeNewestWrong)

/-- 'cedillalaw22.MergeParts': WHATEVER THE INPUT: true; the input reads as it did. -/
def mergePartsSpec : ChangeSpec := { name := "mergeParts", fn := fun _ => fun
  | [d1, d2, d3] => { results := [.lit (.bool true)], args := [d1, d2, d3] }
  | _ => none }
def mergePartsRow : OpenClaim := { program := "ytdlcnpjdloinnaa", sum := "7b21354654c065e3424a6ade8e02138a58ff26696bfba07fce3ae0052edb23be", func := "cedilla/cedillalaw22.MergeParts", spec := "mergeParts", unfollowed := true, recurses := true, apart := false }
def MergePartsSaid : Prop := mergePartsRow.holds Try.pinned (OpenSpec.ofChange mergePartsSpec)

/-- ITS FALSE NEIGHBOUR: 'it returns false'. Refute it at one input. -/
def mergePartsWrong : ChangeSpec := { name := "mergeParts", fn := fun _ => fun
  | [d1, d2, d3] => { results := [.lit (.bool false)], args := [d1, d2, d3] }
  | _ => none }
def MergePartsWrongFalsely : Prop := mergePartsRow.holds Try.pinned (OpenSpec.ofChange mergePartsWrong)

/-- 'cedillalaw22.MergeBottom': WHATEVER THE INPUT: true; the input reads as it did. -/
def mergeBottomSpec : ChangeSpec := { name := "mergeBottom", fn := fun _ => fun
  | [d1, d2] => { results := [.lit (.bool true)], args := [d1, d2] }
  | _ => none }
def mergeBottomRow : OpenClaim := { program := "ytdlcnpjdloinnaa", sum := "7b21354654c065e3424a6ade8e02138a58ff26696bfba07fce3ae0052edb23be", func := "cedilla/cedillalaw22.MergeBottom", spec := "mergeBottom", unfollowed := true, recurses := true, apart := false }
def MergeBottomSaid : Prop := mergeBottomRow.holds Try.pinned (OpenSpec.ofChange mergeBottomSpec)

/-- ITS FALSE NEIGHBOUR: 'it returns false'. Refute it at one input. -/
def mergeBottomWrong : ChangeSpec := { name := "mergeBottom", fn := fun _ => fun
  | [d1, d2] => { results := [.lit (.bool false)], args := [d1, d2] }
  | _ => none }
def MergeBottomWrongFalsely : Prop := mergeBottomRow.holds Try.pinned (OpenSpec.ofChange mergeBottomWrong)

/-- 'cedillalaw22.MergeTells': WHATEVER THE INPUT: true; the input reads as it did. -/
def mergeTellsSpec : ChangeSpec := { name := "mergeTells", fn := fun _ => fun
  | [d1, d2, d3] => { results := [.lit (.bool true)], args := [d1, d2, d3] }
  | _ => none }
def mergeTellsRow : OpenClaim := { program := "ytdlcnpjdloinnaa", sum := "7b21354654c065e3424a6ade8e02138a58ff26696bfba07fce3ae0052edb23be", func := "cedilla/cedillalaw22.MergeTells", spec := "mergeTells", unfollowed := true, recurses := true, apart := false }
def MergeTellsSaid : Prop := mergeTellsRow.holds Try.pinned (OpenSpec.ofChange mergeTellsSpec)

/-- ITS FALSE NEIGHBOUR: 'it returns false'. Refute it at one input. -/
def mergeTellsWrong : ChangeSpec := { name := "mergeTells", fn := fun _ => fun
  | [d1, d2, d3] => { results := [.lit (.bool false)], args := [d1, d2, d3] }
  | _ => none }
def MergeTellsWrongFalsely : Prop := mergeTellsRow.holds Try.pinned (OpenSpec.ofChange mergeTellsWrong)

/-- 'cedillalaw22.MergeFinds': WHATEVER THE INPUT: true; the input reads as it did. -/
def mergeFindsSpec : ChangeSpec := { name := "mergeFinds", fn := fun _ => fun
  | [d1, d2, d3] => { results := [.lit (.bool true)], args := [d1, d2, d3] }
  | _ => none }
def mergeFindsRow : OpenClaim := { program := "ytdlcnpjdloinnaa", sum := "7b21354654c065e3424a6ade8e02138a58ff26696bfba07fce3ae0052edb23be", func := "cedilla/cedillalaw22.MergeFinds", spec := "mergeFinds", unfollowed := true, recurses := true, apart := false }
def MergeFindsSaid : Prop := mergeFindsRow.holds Try.pinned (OpenSpec.ofChange mergeFindsSpec)

/-- ITS FALSE NEIGHBOUR: 'it returns false'. Refute it at one input. -/
def mergeFindsWrong : ChangeSpec := { name := "mergeFinds", fn := fun _ => fun
  | [d1, d2, d3] => { results := [.lit (.bool false)], args := [d1, d2, d3] }
  | _ => none }
def MergeFindsWrongFalsely : Prop := mergeFindsRow.holds Try.pinned (OpenSpec.ofChange mergeFindsWrong)

/-- 'cedillalaw22.MergeKnown': WHATEVER THE INPUT: true; the input reads as it did. -/
def mergeKnownSpec : ChangeSpec := { name := "mergeKnown", fn := fun _ => fun
  | [] => { results := [.lit (.bool true)], args := [] }
  | _ => none }
def mergeKnownRow : OpenClaim := { program := "ytdlcnpjdloinnaa", sum := "7b21354654c065e3424a6ade8e02138a58ff26696bfba07fce3ae0052edb23be", func := "cedilla/cedillalaw22.MergeKnown", spec := "mergeKnown", unfollowed := true, recurses := true, apart := false }
def MergeKnownSaid : Prop := mergeKnownRow.holds Try.pinned (OpenSpec.ofChange mergeKnownSpec)

/-- ITS FALSE NEIGHBOUR: 'it returns false'. Refute it at one input. -/
def mergeKnownWrong : ChangeSpec := { name := "mergeKnown", fn := fun _ => fun
  | [] => { results := [.lit (.bool false)], args := [] }
  | _ => none }
def MergeKnownWrongFalsely : Prop := mergeKnownRow.holds Try.pinned (OpenSpec.ofChange mergeKnownWrong)

/- THE SECOND FORM. 'bulk': how many values and letters a reading holds, each counted each time it is reached (what is shared counts as often as it is met; a slice's spare places count too). A statement '..UptoSaid' is the law's where the arguments, and the package variables that the reading takes, are together of bulk at most 1048576: NARROWER than '..Said'. Prove '..Said' where nothing that the law and all that it calls make is longer than what came in: it says more and counts as full. Else prove '..UptoSaid'. A law counts once. -/
mutual
def uptoBulk {H : Type} : DataW H → Nat
  | .lit (.string bytes) => bytes.length + 1
  | .lit _ => 1
  | .nil => 1
  | .ptr d => uptoBulk d + 1
  | .slice elems spare => uptoBulkAll elems + uptoBulkAll spare + 1
  | .agg parts => uptoBulkAll parts + 1
  | .iface _ d => uptoBulk d + 1
  | .map entries => uptoBulkEntries entries + 1
  | .held _ => 1
def uptoBulkAll {H : Type} : List (DataW H) → Nat
  | [] => 0
  | d :: r => uptoBulk d + uptoBulkAll r
def uptoBulkEntries {H : Type} : List (Lit × DataW H) → Nat
  | [] => 0
  | x :: r => uptoBulkEntry x + uptoBulkEntries r
def uptoBulkEntry {H : Type} : Lit × DataW H → Nat
  | (.string bytes, d) => bytes.length + uptoBulk d + 1
  | (_, d) => uptoBulk d + 1
 end
def uptoSmall : (H : Type) → List (DataW H) → Bool := fun _ ds => decide (uptoBulkAll ds ≤ 1048576)
def OpenSpec.upto (s : _root_.Go.ChangeSpec) : _root_.Go.OpenSpec := { _root_.Go.OpenSpec.ofChange s with cond := some uptoSmall }

/-- 'cedillalaw22.MergeNewest', WHERE WHAT IT READS IS OF BULK AT MOST 1048576: true; the input reads as it did. -/
def mergeNewestUptoRow : OpenClaim := { program := "ytdlcnpjdloinnaa", sum := "7b21354654c065e3424a6ade8e02138a58ff26696bfba07fce3ae0052edb23be", func := "cedilla/cedillalaw22.MergeNewest", spec := "mergeNewest", unfollowed := true, recurses := true, apart := false, narrowed := true }
def MergeNewestUptoSaid : Prop := mergeNewestUptoRow.holds Try.pinned (OpenSpec.upto mergeNewestSpec)

/-- 'cedillalaw22.MergeParts', WHERE WHAT IT READS IS OF BULK AT MOST 1048576: true; the input reads as it did. -/
def mergePartsUptoRow : OpenClaim := { program := "ytdlcnpjdloinnaa", sum := "7b21354654c065e3424a6ade8e02138a58ff26696bfba07fce3ae0052edb23be", func := "cedilla/cedillalaw22.MergeParts", spec := "mergeParts", unfollowed := true, recurses := true, apart := false, narrowed := true }
def MergePartsUptoSaid : Prop := mergePartsUptoRow.holds Try.pinned (OpenSpec.upto mergePartsSpec)

/-- 'cedillalaw22.MergeBottom', WHERE WHAT IT READS IS OF BULK AT MOST 1048576: true; the input reads as it did. -/
def mergeBottomUptoRow : OpenClaim := { program := "ytdlcnpjdloinnaa", sum := "7b21354654c065e3424a6ade8e02138a58ff26696bfba07fce3ae0052edb23be", func := "cedilla/cedillalaw22.MergeBottom", spec := "mergeBottom", unfollowed := true, recurses := true, apart := false, narrowed := true }
def MergeBottomUptoSaid : Prop := mergeBottomUptoRow.holds Try.pinned (OpenSpec.upto mergeBottomSpec)

/-- 'cedillalaw22.MergeTells', WHERE WHAT IT READS IS OF BULK AT MOST 1048576: true; the input reads as it did. -/
def mergeTellsUptoRow : OpenClaim := { program := "ytdlcnpjdloinnaa", sum := "7b21354654c065e3424a6ade8e02138a58ff26696bfba07fce3ae0052edb23be", func := "cedilla/cedillalaw22.MergeTells", spec := "mergeTells", unfollowed := true, recurses := true, apart := false, narrowed := true }
def MergeTellsUptoSaid : Prop := mergeTellsUptoRow.holds Try.pinned (OpenSpec.upto mergeTellsSpec)

/-- 'cedillalaw22.MergeFinds', WHERE WHAT IT READS IS OF BULK AT MOST 1048576: true; the input reads as it did. -/
def mergeFindsUptoRow : OpenClaim := { program := "ytdlcnpjdloinnaa", sum := "7b21354654c065e3424a6ade8e02138a58ff26696bfba07fce3ae0052edb23be", func := "cedilla/cedillalaw22.MergeFinds", spec := "mergeFinds", unfollowed := true, recurses := true, apart := false, narrowed := true }
def MergeFindsUptoSaid : Prop := mergeFindsUptoRow.holds Try.pinned (OpenSpec.upto mergeFindsSpec)

/-- 'cedillalaw22.MergeKnown', WHERE WHAT IT READS IS OF BULK AT MOST 1048576: true; the input reads as it did. -/
def mergeKnownUptoRow : OpenClaim := { program := "ytdlcnpjdloinnaa", sum := "7b21354654c065e3424a6ade8e02138a58ff26696bfba07fce3ae0052edb23be", func := "cedilla/cedillalaw22.MergeKnown", spec := "mergeKnown", unfollowed := true, recurses := true, apart := false, narrowed := true }
def MergeKnownUptoSaid : Prop := mergeKnownUptoRow.holds Try.pinned (OpenSpec.upto mergeKnownSpec)

end Rows
end Go.Proofs.Ytdlcnpjdloinnaa
