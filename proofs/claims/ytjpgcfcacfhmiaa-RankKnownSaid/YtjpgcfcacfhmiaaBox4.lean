/- Boxes of a hit. -/
import Derived.Test.YtjpgcfcacfhmiaaLists
namespace Go.Proofs.Ytjpgcfcacfhmiaa
open Go.RowKit
set_option linter.unusedSimpArgs false
set_option linter.unusedVariables false
set_option linter.unnecessarySimpa false
def B4 (w : World) (p : Nat) (x : Hit) : Prop := w.heap[p]? = some (.cells #[.string x.word, .int .u32 x.weight, .bool x.gone, .int .i64 x.dist] 26 (0, 0))
theorem B4.cells {w : World} {p : Nat} {x : Hit} (h : B4 w p x) : w.cell? ⟨p, 0, none⟩ = some (.string x.word) ∧ w.cell? ⟨p, 1, none⟩ = some (.int .u32 x.weight) ∧ w.cell? ⟨p, 2, none⟩ = some (.bool x.gone) ∧ w.cell? ⟨p, 3, none⟩ = some (.int .i64 x.dist) := by
  obtain ⟨h0, h1, h2, h3⟩ := box4_cells h
  exact ⟨h0, h1, h2, h3⟩
theorem B4.lt {w : World} {p : Nat} {x : Hit} (h : B4 w p x) : p < w.heap.size := (Array.getElem?_eq_some_iff.1 h).1
theorem B4.below {w w' : World} {p : Nat} {x : Hit} (h : B4 w p x) (hb : Below w.heap.size w w') : B4 w' p x := (hb.block p h.lt).trans h
theorem B4.alloc {w : World} {p : Nat} {x : Hit} (h : B4 w p x) (o : Obj) : B4 (w.alloc o) p x := h.below ((Below.refl _ _).alloc (Nat.le_refl _) o)
theorem B4.new (w : World) (x : Hit) : B4 (w.alloc (.cells #[.string x.word, .int .u32 x.weight, .bool x.gone, .int .i64 x.dist] 26)) w.heap.size x := heap_alloc_new _ _
theorem B4.new' {w : World} (x : Hit) {p : Nat} (hp : p = w.heap.size) : B4 (w.alloc (.cells #[.string x.word, .int .u32 x.weight, .bool x.gone, .int .i64 x.dist] 26)) p x := by subst hp; exact B4.new w x
end Go.Proofs.Ytjpgcfcacfhmiaa
