/- pack: what PackBack is walked by. -/
import Derived.Test.YtdkbgbdgmihlmaaDoorPFormF
import Derived.Test.YtdkbgbdgmihlmaaDoorPWorks
import Derived.Test.YtdkbgbdgmihlmaaDoorTailA
namespace Go.Proofs.YtdkbgbdgmihlmaaDoor
open Go.RowKit
set_option linter.unusedSimpArgs false
set_option linter.unusedVariables false
set_option linter.unnecessarySimpa false
namespace Dw

def PFst (i : Nat) (f : List State) : Stab.Pr := fun v w => ∃ V, v = .agg #[V, .int .u64 i] ∧ RS w V f
theorem PFst.stable (i : Nat) (f : List State) : Stab.Stable (PFst i f) := fun v w w' hb ⟨V, h1, h2⟩ => ⟨V, h1, h2.later hb⟩
theorem RS.off2 {w w' : World} {g : Nat} {sv x y : Value} {t : TypeId} {fr : Nat × Nat} {ss : List State} (h : RS w sv ss) (hg : w.heap[g]? = some (.cells #[x, y] t fr)) (hb : But (fun k => k = g) w w') : RS w' sv ss :=
  h.off (fun cs t fr h => by rw [hg] at h; injection h with h; injection h with h; rw [← h]; simp) hb
end Dw
end Go.Proofs.YtdkbgbdgmihlmaaDoor
