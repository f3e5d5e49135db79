/- As Tail, where some of the operations ahead lay fresh blocks, which are told apart. -/
import Derived.Test.YtdkbgbdgmihlmaaDoorTools
namespace Go.Proofs.YtdkbgbdgmihlmaaDoor
open Go.RowKit
set_option linter.unusedSimpArgs false
set_option linter.unusedVariables false
set_option linter.unnecessarySimpa false
namespace TailA
open Stab (Pr Here Deps Got OkOps Dep isPath)
open Tail (Seq chain1 chain_dep seq_any TL)
section
variable {P : Program} {Q : Exit → Act → World → Prop} {l : List Oper} {a0 : Act} {w0 : World} {ps : List Pr}
abbrev ptr (g : Nat) : Value := .pointer (some ⟨g, 0, none⟩)
/-- what is laid is there, and apart -/
def Parts (N : Nat) (al : List (Nat × Nat × Obj)) (C : Nat → Prop) (a : Act) (w : World) : Prop :=
  (∀ x ∈ al, C x.1 → ∃ g, a.tmps[x.2.1]? = some (ptr g) ∧ g < w.heap.size ∧ N ≤ g) ∧ ∀ x ∈ al, ∀ y ∈ al, x.1 ≠ y.1 → C x.1 → C y.1 → ∀ g g', a.tmps[x.2.1]? = some (ptr g) → a.tmps[y.2.1]? = some (ptr g') → g ≠ g'
theorem Parts.of {N : Nat} {al : List (Nat × Nat × Obj)} {C C' : Nat → Prop} {a : Act} {w : World} (h : Parts N al C a w) (hC : ∀ x ∈ al, C' x.1 → C x.1) : Parts N al C' a w :=
  ⟨fun x hx hc => h.1 x hx (hC x hx hc), fun x hx y hy hne hcx hcy => h.2 x hx y hy hne (hC x hx hcx) (hC y hy hcy)⟩
/-- a fresh box -/
def PZ (cs : Array Value) (t : TypeId) : Pr := fun v w => ∃ g, v = ptr g ∧ w.heap[g]? = some (.cells cs t (0, 0))
theorem PZ.stable (cs : Array Value) (t : TypeId) : Stab.Stable (PZ cs t) := fun v w w' hb ⟨g, h1, h2⟩ => ⟨g, h1, (hb.block g (Array.getElem?_eq_some_iff.1 h2).1).trans h2⟩
theorem PZ.mk (cs : Array Value) (t : TypeId) (w : World) : PZ cs t (ptr w.heap.size) (w.alloc (.cells cs t)) := ⟨_, rfl, heap_alloc_new w _⟩
end
end TailA
end Go.Proofs.YtdkbgbdgmihlmaaDoor
