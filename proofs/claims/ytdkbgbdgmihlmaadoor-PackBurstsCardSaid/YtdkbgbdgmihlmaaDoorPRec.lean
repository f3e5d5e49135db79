/- Get's deferred closure. -/
import Derived.Test.YtdkbgbdgmihlmaaDoorPAll
import Derived.Recover
import Derived.Tactics
import Derived.Tactics2
namespace Go.Proofs.YtdkbgbdgmihlmaaDoor
open Go.RowKit
set_option linter.unusedSimpArgs false
set_option linter.unusedVariables false
set_option linter.unnecessarySimpa false
namespace Dw
set_option maxHeartbeats 4000000 in
set_option maxRecDepth 100000 in
theorem catch31 (a b c q : Nat) (x : Int) (sv : Value) (y : Nat) (ev : Value) (w : World) (hab : a ≠ b) (hac : a ≠ c) (hbc : b ≠ c) (h0 : w.heap[a]? = some (.cells #[.int .i64 x] 3 (0, 0))) (h1 : w.heap[b]? = some (.cells #[sv, .int .u64 y] 25 (0, 0))) (h2 : w.heap[c]? = some (.cells #[ev] 45 (0, 0))) :
    CallsD Tryd.prog 31 #[.pointer (some ⟨a, 0, none⟩), .pointer (some ⟨b, 0, none⟩), .pointer (some ⟨c, 0, none⟩)] (.panicking [{ v := .iface 82 (.pointer (some ⟨q, 0, none⟩)), recovered := false }]) w fun e u' w' =>
      e = .returned (.tuple #[]) ∧ u' = .panicking [{ v := .iface 82 (.pointer (some ⟨q, 0, none⟩)), recovered := true }] ∧ w' = (((w.setCell ⟨a, 0, none⟩ (.int .i64 0)).setCell ⟨b, 0, none⟩ (.slice none 0 0)).setCell ⟨b, 1, none⟩ (.int .u64 0)).setCell ⟨c, 0, none⟩ (.iface 82 (.pointer (some ⟨q, 0, none⟩))) := by
  refine callsD_of_wpS Tryd.func31 rfl fun c₀ cs hu => ?_
  apply wpS_seq
  apply wpS_region
  simp [wpOpsS, go_sem, recoverD, hu, Tryd.ntmps31, Exit.thenS]
  refine wpS_of_wp ?_
  have a0 : w.cell? ⟨a, 0, none⟩ = some (.int .i64 x) := by rw [cell_of_row _ _ 0 _ _ (0, 0) h0]; rfl
  have b0 : w.cell? ⟨b, 0, none⟩ = some sv := by rw [cell_of_row _ _ 0 _ _ (0, 0) h1]; rfl
  have b1 : w.cell? ⟨b, 1, none⟩ = some (.int .u64 y) := by rw [cell_of_row _ _ 1 _ _ (0, 0) h1]; rfl
  have c0' : w.cell? ⟨c, 0, none⟩ = some ev := by rw [cell_of_row _ _ 0 _ _ (0, 0) h2]; rfl
  have fa := frozen_of (i := 0) h0
  have fb := frozen_of (i := 0) h1
  have fb1 := frozen_of (i := 1) h1
  have fc := frozen_of (i := 0) h2
  have hab' := hab.symm
  have hac' := hac.symm
  have hbc' := hbc.symm
  have hta : ∀ w' : World, (Instr.typeAssert (.iface 82 (.pointer (some ⟨q, 0, none⟩))) 20 82 true).run Tryd.prog w' = .ok (.tuple #[.pointer (some ⟨q, 0, none⟩), .bool true]) w' := fun w' => by kernel_rfl
  go_wp2
  exact ⟨rfl, _, rfl, _, results_none rfl _ _ _, rfl, rfl, rfl⟩
set_option maxHeartbeats 4000000 in
set_option maxRecDepth 100000 in
theorem idle31 (p0 p1 p2 : Value) (w : World) : CallsD Tryd.prog 31 #[p0, p1, p2] .returning w fun e u' w' => e = .returned (.tuple #[]) ∧ u' = .returning ∧ w' = w := by
  refine callsD_of_wpS Tryd.func31 rfl fun c₀ cs hu => ?_
  apply wpS_seq
  apply wpS_region
  simp [wpOpsS, go_sem, recoverD, hu, Tryd.ntmps31, Exit.thenS]
  refine wpS_of_wp ?_
  have hn : ∀ w' : World, (binOp .eql 20 .nilIface .nilIface).run Tryd.prog w' = .ok (.bool true) w' := fun w' => by kernel_rfl
  go_wp2
  cases c₀
  simp_all [bodyPostS, results, Tryd.results31]
end Dw
end Go.Proofs.YtdkbgbdgmihlmaaDoor
