/- Rows of bytes that the call owns, rows of numbers. -/
import Derived.Test.YtdkbgbdgmihlmaaDoorPNum
import Derived.Test.YtdkbgbdgmihlmaaDoorPBase
import Derived.Deep.WholeRow
namespace Go.Proofs.YtdkbgbdgmihlmaaDoor
open Go.RowKit
set_option linter.unusedSimpArgs false
set_option linter.unusedVariables false
set_option linter.unnecessarySimpa false
namespace Dw
def bcs (l : List Nat) : List Value := l.map fun (x : Nat) => Value.int .u8 x
theorem bcs_length (l : List Nat) : (bcs l).length = l.length := by simp [bcs]
theorem bcs_append (a b : List Nat) : bcs (a ++ b) = bcs a ++ bcs b := by simp [bcs]
theorem bcs_one (l : List Nat) : ∀ u ∈ bcs l, u.oneCell' = true := fun u hu => by
  obtain ⟨x, _, rfl⟩ := List.mem_map.1 hu
  rfl
/-- a row of bytes that the call owns -/
abbrev OB (w : World) (base : Nat) (v : Value) (l : List Nat) : Prop := w.ownsRow base 5 1 v l.length (bcs l)
theorem OB.nil_ (w : World) (base : Nat) : OB w base (.slice none 0 0) [] := World.ownsRow_nil _ _ _ _
theorem info_u8 : (Tryd.prog.info? 5).map (fun i => (i.zero, i.size, i.bytes)) = some (some (.int .u8 0), 1, 1) := by kernel_rfl
theorem OB.cell {w : World} {base n c : Nat} {A : Option Addr} {l : List Nat} (h : OB w base (.slice A n c) l) {i x : Nat} (hi : l[i]? = some x) : ∃ b, A = some ⟨b, 0, none⟩ ∧ base ≤ b ∧ b < w.heap.size ∧ w.cell? ⟨b, i, none⟩ = some (.int .u8 x) := by
  have hlt := (List.getElem?_eq_some_iff.1 hi).1
  have h0 := h
  rcases h.2 with ⟨hv, h9⟩ | ⟨g, cap, cur, hv, hg, hh, hc, _⟩
  · omega
  · injection hv with h1 h2 h3
    subst h1; subst h2; subst h3
    refine ⟨g, rfl, hg, heap_lt hh, ?_⟩
    rw [World.ownsRow.cellAt (show w.ownsRow base _ 1 _ l.length (bcs l) from h0) i (by rw [Nat.mul_one]; exact hlt)]
    unfold bcs
    rw [List.getElem?_map, hi]
    rfl
theorem OB.conv {w : World} {base : Nat} {v : Value} {l : List Nat} (h : OB w base v l) : (convert 35 9 v).run Tryd.prog w = .ok (.string (bl l)) w := by
  rcases h.2 with ⟨rfl, h0⟩ | ⟨g, cap, cur, rfl, hg, hh, hc, _⟩
  · obtain rfl : l = [] := List.eq_nil_of_length_eq_zero h0
    exact run_convert_bytes_nil (P := Tryd.prog) w 35 5 Tryd.underlying35 Tryd.underlying5 0 0 9 Tryd.underlying9
  · refine run_convert_bytes_arg (P := Tryd.prog) w 35 5 Tryd.underlying35 Tryd.underlying5 g 0 l.length cap (l.map fun (x : Nat) => (x : Int)) (by simp) (fun i hi => ?_) 9 Tryd.underlying9
    obtain ⟨b, e, _, _, hcell⟩ := OB.cell h (List.getElem?_eq_getElem hi)
    injection e with e
    injection e with e
    subst e
    rw [Nat.zero_add, hcell]
    simp [hi]
/-- a row of numbers of 64 bits, below a block -/
def RN (w : World) (B : Nat) (v : Value) (l : List Nat) : Prop := ∃ (A : Option Addr) (c : Nat), v = .slice A l.length c ∧ (0 < l.length → ∃ b off, A = some ⟨b, off, none⟩ ∧ b < B ∧ ∀ (i x : Nat), l[i]? = some x → w.cell? ⟨b, off + i, none⟩ = some (.int .u64 x))
theorem RN.below {w w' : World} {B : Nat} {v : Value} {l : List Nat} (h : RN w B v l) (hb : Below B w w') : RN w' B v l := by
  obtain ⟨A, c, h1, h2⟩ := h
  refine ⟨A, c, h1, fun h0 => ?_⟩
  obtain ⟨b, off, h4, h5, h6⟩ := h2 h0
  exact ⟨b, off, h4, h5, fun i x hi => old_cell hb (h6 i x hi) h5⟩
theorem RN.more {w : World} {B B' : Nat} {v : Value} {l : List Nat} (h : RN w B v l) (hB : B ≤ B') : RN w B' v l := by
  obtain ⟨A, c, h1, h2⟩ := h
  refine ⟨A, c, h1, fun h0 => ?_⟩
  obtain ⟨b, off, h4, h5, h6⟩ := h2 h0
  exact ⟨b, off, h4, by omega, h6⟩
theorem RN.form {w : World} {B : Nat} {v : Value} {l : List Nat} (h : RN w B v l) : ∃ (A : Option Addr) (c : Nat), v = .slice A l.length c := by
  obtain ⟨A, c, h1, _⟩ := h
  exact ⟨A, c, h1⟩
theorem RN.at_ {w : World} {B : Nat} {A : Option Addr} {n c : Nat} {l : List Nat} (h : RN w B (.slice A n c) l) {i x : Nat} (hi : l[i]? = some x) : ∃ b off, A = some ⟨b, off, none⟩ ∧ b < B ∧ w.cell? ⟨b, off + i, none⟩ = some (.int .u64 x) := by
  obtain ⟨A', c', h1, h3⟩ := h
  injection h1 with h1
  have h0 := (List.getElem?_eq_some_iff.1 hi).1
  obtain ⟨b, off, h4, h5, h6⟩ := h3 (by omega)
  exact ⟨b, off, h1.trans h4, h5, h6 i x hi⟩
def numsB (l : List Nat) : List Nat := l.flatMap numB
theorem numsB_take {l : List Nat} {i x : Nat} (h : l[i]? = some x) : numsB (l.take (i + 1)) = numsB (l.take i) ++ numB x := by
  unfold numsB
  rw [List.take_add_one, h]
  simp
end Dw
end Go.Proofs.YtdkbgbdgmihlmaaDoor
