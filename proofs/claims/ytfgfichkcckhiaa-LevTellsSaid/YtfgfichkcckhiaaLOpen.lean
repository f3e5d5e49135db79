/- Lev: what comes in, opened. -/
import Derived.Test.YtfgfichkcckhiaaEnds
import Derived.Lib.SmallJoins
import Derived.ChangeMaps5
namespace Go.Proofs.Ytfgfichkcckhiaa
open Go.ChangeShapes Go.WideShapes Go.ChangeAt Go.RowKit Go.Deep Go.ChangeMaps
set_option linter.unusedSimpArgs false
set_option linter.unusedVariables false
set_option linter.unnecessarySimpa false
namespace Lv
theorem cells24 : Try.prog.cellsOf 24 = 3 := by kernel_rfl
set_option maxRecDepth 100000 in
theorem open_ask {H : Type} {enc : TypeId × Value → H} {w : World} {base : Nat} {spare : Nat → Bool} {held : Bool} {r : Reach} {b0 : Nat} {v : Value} {d : DataW H} {p : List MemPlace}
    (hv : Value.okWide Try.prog w r b0 24 v) (h : DataW.Trod enc Try.prog w base spare held 24 v d p) : ∃ (Q T : ByteArray) (z : Int), v = .agg #[.string Q, .string T, .int .i8 z] ∧ -128 ≤ z ∧ z ≤ 127 ∧ p = [] := by
  obtain ⟨v0, v1, v2, y0, y1, y2, n, rfl, -, rfl, h0, h1, h2⟩ := _root_.Go.Joins.open_agg3 Try.underlying24 (by kernel_rfl) cells24 hv h
  obtain ⟨s0, e0, x0, -⟩ := DataW.trod_string Try.underlying9 h0
  obtain ⟨s1, e1, x1, -⟩ := DataW.trod_string Try.underlying9 h1
  obtain ⟨z, e2, x2, hw⟩ := DataW.trod_int Try.underlying22 h2
  injection e0 with e0; injection e1 with e1; injection e2 with e2
  subst e0; subst e1; subst e2
  have hb := bounds_i8 hw
  exact ⟨s0, s1, z, rfl, hb.1, hb.2, by rw [x0, x1, x2]; rfl⟩
end Lv
end Go.Proofs.Ytfgfichkcckhiaa
