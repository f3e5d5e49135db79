/- Bytes in a row of their own, for the sort that is walked. -/
import Derived.Test.YtfgfichkcckhiaaProg
import Derived.Test.YtfgfichkcckhiaaStage
import Derived.WalkKit
import Derived.Deep.OwnRows
import Derived.Laws.OwnMore
import Derived.Deep.RegionHeld3
namespace Go.Proofs.Ytfgfichkcckhiaa
open Go.RowKit
set_option linter.unusedSimpArgs false
set_option linter.unusedVariables false
set_option linter.unnecessarySimpa false
namespace Sb
/-- block g holds these bytes, and can be written -/
def Arr (w : World) (g : Nat) (zs : List Int) : Prop := ∃ cs : Array Value, w.heap[g]? = some (.cells cs 5 (0, 0)) ∧ ∀ (i : Nat) (x : Int), zs[i]? = some x → cs[i]? = some (Value.int .u8 x)
theorem Arr.cell {w : World} {g i : Nat} {x : Int} {zs : List Int} (h : Arr w g zs) (hi : zs[i]? = some x) : w.cell? ⟨g, i, none⟩ = some (.int .u8 x) := by
  obtain ⟨cs, hh, hc⟩ := h
  rw [cell_of_row w g i cs _ (0, 0) hh]
  exact hc i x hi
theorem Arr.frozen {w : World} {g : Nat} {zs : List Int} (h : Arr w g zs) (i : Nat) : w.frozen? ⟨g, i, none⟩ = false := by
  obtain ⟨cs, hh, hc⟩ := h
  simp [World.frozen?, hh]
theorem Arr.drew {w : World} {g : Nat} {zs : List Int} (h : Arr w g zs) : Arr w.drew g zs := h
theorem Arr.lt {w : World} {g : Nat} {zs : List Int} (h : Arr w g zs) : g < w.heap.size := by
  obtain ⟨cs, hh, hc⟩ := h
  exact (Array.getElem?_eq_some_iff.1 hh).1
theorem Arr.set_ {w : World} {g : Nat} {zs : List Int} (h : Arr w g zs) (i : Nat) (x : Int) : Arr (w.setCell ⟨g, i, none⟩ (.int .u8 x)) g (zs.set i x) := by
  obtain ⟨cs, hh, hc⟩ := h
  refine ⟨cs.setIfInBounds i (.int .u8 x), by simp [World.setCell, Array.getElem?_modify, hh], fun j y hj => ?_⟩
  rw [List.getElem?_set] at hj
  by_cases hij : i = j
  · subst hij
    simp only [if_true] at hj
    split at hj
    · injection hj with hj
      subst hj
      rename_i hlt
      have h2 := hc i _ (List.getElem?_eq_getElem hlt)
      have h3 := (Array.getElem?_eq_some_iff.1 h2).1
      simp [h3]
    · cases hj
  · rw [if_neg hij] at hj
    rw [Array.getElem?_setIfInBounds_ne hij]
    exact hc j y hj
theorem Arr.keep {w w' : World} {g : Nat} {zs : List Int} (h : Arr w g zs) (hk : w'.heap[g]? = w.heap[g]?) : Arr w' g zs := by
  obtain ⟨cs, hh, hc⟩ := h
  exact ⟨cs, hk.trans hh, hc⟩
/-- only block g, and what is new, has turned -/
abbrev Only (w w' : World) (g : Nat) : Prop := w.grownBy w' (some g)
theorem Only.refl (w : World) (g : Nat) : Only w w g := World.grownBy.refl w _
theorem Only.trans {a b c : World} {g : Nat} (h : Only a b g) (k : Only b c g) : Only a c g :=
  ⟨k.os.trans h.os, k.tape.trans h.tape, k.output.trans h.output, Nat.le_trans h.size k.size, fun i hi hne => (k.block i (Nat.lt_of_lt_of_le hi h.size) hne).trans (h.block i hi hne)⟩
theorem Only.trans_new {a b c : World} {g s : Nat} (h : Only a b g) (k : Only b c s) (hs : a.heap.size ≤ s) : Only a c g :=
  ⟨k.os.trans h.os, k.tape.trans h.tape, k.output.trans h.output, Nat.le_trans h.size k.size, fun i hi hne => (k.block i (Nat.lt_of_lt_of_le hi h.size) (fun e => by injection e with e; omega)).trans (h.block i hi hne)⟩
theorem Only.drew {a w : World} {g : Nat} (h : Only a w g) : Only a w.drew g := ⟨h.os, h.tape, h.output, h.size, h.block⟩
theorem Only.alloc {a w : World} {g : Nat} (h : Only a w g) (o : Obj) : Only a (w.alloc o) g :=
  ⟨h.os, h.tape, h.output, Nat.le_trans h.size (by simp), fun i hi hne => (Below.heap_alloc w o i (Nat.lt_of_lt_of_le hi h.size)).trans (h.block i hi hne)⟩
theorem Only.set_ {a w : World} {g : Nat} (h : Only a w g) {p : Addr} (hp : p.block = g ∨ a.heap.size ≤ p.block) (u : Value) : Only a (w.setCell p u) g :=
  ⟨h.os, h.tape, h.output, by simpa [World.setCell] using h.size, fun i hi hne => (Below.heap_setCell w p u i (by
    rintro rfl
    rcases hp with hp | hp
    · exact hne (by rw [hp])
    · omega)).trans (h.block i hi hne)⟩
theorem Only.of_below {a w : World} (h : Below a.heap.size a w) (g : Nat) : Only a w g := ⟨h.os, h.tape, h.output, h.size, fun i hi _ => h.block i hi⟩
/-- a cell of its own that counts -/
def Cnt (w : World) (s : Nat) : Prop := ∃ v : Int, w.heap[s]? = some (.cells #[Value.int .i64 v] 3 (0, 0))
theorem Arr.only {w w' : World} {g s : Nat} {zs : List Int} (h : Arr w g zs) (ho : Only w w' s) (hne : g ≠ s) : Arr w' g zs := h.keep (ho.block g h.lt (fun e => hne (by injection e)))
theorem Arr.below {w w' : World} {g : Nat} {zs : List Int} (h : Arr w g zs) (hb : Below w.heap.size w w') : Arr w' g zs := h.keep (hb.block g h.lt)
/-- two bytes change places -/
def swap (zs : List Int) (i j : Nat) : List Int := (zs.set i (zs.getD j 0)).set j (zs.getD i 0)
theorem swap_length (zs : List Int) (i j : Nat) : (swap zs i j).length = zs.length := by simp [swap]
theorem swap_get (zs : List Int) (i j : Nat) (hi : i < zs.length) (hj : j < zs.length) (k : Nat) : (swap zs i j)[k]? = if k = j then zs[i]? else if k = i then zs[j]? else zs[k]? := by
  unfold swap
  rw [List.getElem?_set, List.getElem?_set]
  simp only [List.length_set]
  by_cases h1 : j = k
  · subst h1
    simp [hj, hi, List.getD]
  · rw [if_neg h1, if_neg (Ne.symm h1)]
    by_cases h2 : i = k
    · subst h2
      simp [hi, hj, List.getD]
    · rw [if_neg h2, if_neg (Ne.symm h2)]
end Sb
end Go.Proofs.Ytfgfichkcckhiaa
