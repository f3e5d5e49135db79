/- What the package variable holds, as the cards lay it. -/
import Derived.Test.YtdkbgbdgmihlmaaDoorTie
import Derived.Test.YtdkbgbdgmihlmaaDoorEnds
import Derived.Test.YtdkbgbdgmihlmaaDoorPTold
import Derived.ProofKit
import Derived.LaidMore
import Derived.LaidHandle
import Derived.OpenShut
import Derived.Stop.Joined
namespace Go.Proofs.YtdkbgbdgmihlmaaDoor
open Go.ChangeShapes Go.WideShapes Go.ChangeAt Go.RowKit
def lay1 : List (String × DataW Unit) := [("errors.errorType", Rows.laid_errors_errorType)]
set_option maxRecDepth 100000 in
theorem door_met (os : Os) (args : Array Value) : laidMetH Tryd.prog lay1 ((World.doorLaid Tryd.prog 24 os).forCall (fun _ _ => 0) ⟨#[], args, []⟩).memory :=
  laidMetH_of_parts (laidMet_nil _ _) (by kernel_rfl)
theorem lay_et : Tryd.prog.globalNamed "errors.errorType" = some 0 := by kernel_rfl
theorem lay_rt : (Tryd.prog.cutTypes.find? (·.1 == "internal/reflectlite.rtype")).map (·.2) = some 152 := by kernel_rfl
theorem lay_row : ((List.range 206).filter fun t => Tryd.prog.rowNamed t [101, 114, 114, 111, 114]) = [45] := by kernel_rfl
theorem lay_size : Tryd.prog.types.size = 206 := by kernel_rfl
theorem ety_of_laid {W : World} (h : laidMetH Tryd.prog lay1 W) : Dw.ETy W := by
  have h' : laidMet Tryd.prog [] W ∧ handlesMet Tryd.prog lay1 W := h
  obtain ⟨name, u, ty, e1, e2, e3, e4, e5⟩ := h'.2 _ (List.mem_singleton.2 rfl)
  have en : name = [101, 114, 114, 111, 114] := (Option.some.inj e1).symm
  subst en
  obtain rfl := Option.some.inj (lay_rt.symm.trans e2)
  have hm : ty ∈ (List.range 206).filter fun t => Tryd.prog.rowNamed t [101, 114, 114, 111, 114] := List.mem_filter.2 ⟨List.mem_range.2 (by rw [← lay_size]; exact e3), e4⟩
  rw [lay_row] at hm
  obtain rfl := List.mem_singleton.1 hm
  have hh : typeHandle Tryd.prog 45 = .pointer (some ⟨1, 45, none⟩) := by kernel_rfl
  rw [hh] at e5
  unfold Dw.ETy
  simpa using World.var?_cell lay_et e5 0
end Go.Proofs.YtdkbgbdgmihlmaaDoor
