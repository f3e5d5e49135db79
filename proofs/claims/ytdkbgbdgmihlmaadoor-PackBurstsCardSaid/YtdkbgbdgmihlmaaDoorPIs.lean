/- errors.Is at a *Fault and a code (after the worked example SentryIs). -/
import Derived.Test.YtdkbgbdgmihlmaaDoorPAs
import Derived.Test.YtdkbgbdgmihlmaaDoorPBase
import Derived.Lib.IfaceEq
namespace Go.Proofs.YtdkbgbdgmihlmaaDoor
open Go.RowKit Go.Extern.Stop Go.Stop Go.Extern
set_option linter.unusedSimpArgs false
set_option linter.unusedVariables false
set_option linter.unnecessarySimpa false
namespace Dw
theorem is_typeOf (v : Value) (w : World) : (Extern.ReflectliteType.typeOf #[.iface 29 v]).run Tryd.prog w = .ok (.iface 152 (.agg #[.pointer (some ⟨1, 29, none⟩)])) w := by kernel_rfl
def is_cmpX : TypeId → Sem Value := fun t => do Go.Extern.Rtype.noPackHeld "Comparable" t; pure (.bool (← typeInfo t).comparable)
theorem is_comparable (w : World) : ((Extern.ReflectliteType.method is_cmpX) #[.agg #[.pointer (some ⟨1, 29, none⟩)]]).run Tryd.prog w = .ok (.bool true) w := by kernel_rfl
theorem is_methodComparable (v : Value) (w : World) : (Go.method 306 152 v "Comparable").run Tryd.prog w = .ok (113, v) w := by kernel_rfl
theorem is_noIsF (v : Value) (xT : TypeId) (w : World) : (Instr.typeAssert (.iface 82 v) xT 164 true).run Tryd.prog w = .ok (.tuple #[.nilIface, .bool false]) w := run_typeAssert_lacksB Tryd.underlying164 (by kernel_rfl) (by kernel_rfl) v xT w
theorem is_noIsE (v : Value) (xT : TypeId) (w : World) : (Instr.typeAssert (.iface 29 v) xT 164 true).run Tryd.prog w = .ok (.tuple #[.nilIface, .bool false]) w := run_typeAssert_lacksB Tryd.underlying164 (by kernel_rfl) (by kernel_rfl) v xT w
theorem is_noUnE (v : Value) (xT : TypeId) (w : World) : (Instr.typeAssert (.iface 29 v) xT 159 true).run Tryd.prog w = .ok (.tuple #[.nilIface, .bool false]) w := run_typeAssert_lacksB Tryd.underlying159 (by kernel_rfl) (by kernel_rfl) v xT w
theorem is_noUnsE (v : Value) (xT : TypeId) (w : World) : (Instr.typeAssert (.iface 29 v) xT 161 true).run Tryd.prog w = .ok (.tuple #[.nilIface, .bool false]) w := run_typeAssert_lacksB Tryd.underlying161 (by kernel_rfl) (by kernel_rfl) v xT w
theorem is_unF (v : Value) (xT : TypeId) (w : World) : (Instr.typeAssert (.iface 82 v) xT 159 true).run Tryd.prog w = .ok (.tuple #[.iface 82 v, .bool true]) w := run_typeAssert_hasB Tryd.underlying159 (by kernel_rfl) v xT w
theorem is_methodUnwrap (v : Value) (w : World) : (Go.method 306 82 v "Unwrap").run Tryd.prog w = .ok (107, v) w := by kernel_rfl
theorem is_comp : (Tryd.prog.info? 29).map (·.comparable) = some true := by kernel_rfl
set_option maxHeartbeats 4000000 in
set_option maxRecDepth 100000 in
theorem is_hit (q : Nat) (a c : Int) (w : World) (hq : w.cell? ⟨q, 0, none⟩ = some (.int .i64 a)) :
    Calls Tryd.prog 38 #[.iface 82 (.pointer (some ⟨q, 0, none⟩)), .iface 29 (.int .i64 c)] w fun e w' => e = .returned (.bool (a == c)) ∧ w' = w := by
  have h58 := @run_callFunc_extern Tryd.prog 58 _ Extern.ReflectliteType.typeOf Tryd.func58 (by kernel_rfl) (by kernel_rfl) (by kernel_rfl) (by kernel_rfl)
  have h113 := @run_callFunc_extern Tryd.prog 113 _ (Extern.ReflectliteType.method is_cmpX) Tryd.func113 (by kernel_rfl) (by kernel_rfl) (by kernel_rfl) (by kernel_rfl)
  have tT := is_typeOf
  have cT := is_comparable
  have mR := is_methodComparable
  have nF := is_noIsF
  have nE := is_noIsE
  have uE := is_noUnE
  have vE := is_noUnsE
  have uF := is_unF
  have mU := is_methodUnwrap
  have heq := Lib.run_eql_iface_int (P := Tryd.prog) (t := 45) (tx := 29) (k := .i64) w a c Tryd.underlying45 is_comp Tryd.underlying29
  have hty := run_eql_iface_types (P := Tryd.prog) 82 29 (.pointer (some ⟨q, 0, none⟩)) (.int .i64 c) Tryd.underlying45 (by decide) w
  cases hac : a == c with
  | true =>
    rw [hac] at heq
    clear hac
    go_enter Tryd.func38, Tryd.ntmps38
    go_wp2
    refine wp_loop_rounds 2 ?_
    rw [rounds_succ]
    go_wp2
    rw [rounds_succ]
    go_wp2
    go_ret
    exact ⟨rfl, rfl⟩
  | false =>
    rw [hac] at heq
    clear hac
    go_enter Tryd.func38, Tryd.ntmps38
    go_wp2
    refine wp_loop_rounds 2 ?_
    rw [rounds_succ]
    go_wp2
    rw [rounds_succ]
    go_wp2
    go_ret
    exact ⟨rfl, rfl⟩
end Dw
end Go.Proofs.YtdkbgbdgmihlmaaDoor
