/- A row of hits that the call owns, opened, and one of its hits set. -/
import Derived.Test.YtjpgcfcacfhmiaaPlain
import Derived.Test.YtjpgcfcacfhmiaaSort2
namespace Go.Proofs.Ytjpgcfcacfhmiaa
open Go.RowKit
set_option linter.unusedSimpArgs false
set_option linter.unusedVariables false
set_option linter.unnecessarySimpa false
/-- block g holds the row: its first cells are the hits' -/
structure InRow (w : World) (B g cap : Nat) (es : List Hit) : Prop where
  base : B ≤ g
  cells : ∃ cur, w.heap[g]? = some (.cells cur 26 (0, 0)) ∧ es.length ≤ cap ∧ cap ≤ maxLen ∧ cur.size = cap * 4 ∧ cur.toList.take (es.length * 4) = hcs es
theorem InRow.own {w : World} {B g cap : Nat} {es : List Hit} (h : InRow w B g cap es) : OHs w B (.slice (some ⟨g, 0, none⟩) es.length cap) es := by
  obtain ⟨hB, cur, h1, h2, h3, h4, h5⟩ := h
  exact ⟨hcs_length es, .inr ⟨g, cap, cur, rfl, hB, h1, h2, h3, h4, h5⟩⟩
theorem OHs.row {w : World} {B : Nat} {v : Value} {es : List Hit} (h : OHs w B v es) (h0 : 0 < es.length) : ∃ g cap, v = .slice (some ⟨g, 0, none⟩) es.length cap ∧ InRow w B g cap es := by
  rcases h.2 with ⟨_, hn⟩ | ⟨g, cap, cur, hv, hB, h1, h2, h3, h4, h5⟩
  · omega
  · exact ⟨g, cap, hv, hB, cur, h1, h2, h3, h4, h5⟩
theorem InRow.lt {w : World} {B g cap : Nat} {es : List Hit} (h : InRow w B g cap es) : g < w.heap.size := by
  obtain ⟨_, cur, h1, _⟩ := h
  exact (Array.getElem?_eq_some_iff.1 h1).1
theorem InRow.frozen {w : World} {B g cap : Nat} {es : List Hit} (h : InRow w B g cap es) (i : Nat) : w.frozen? ⟨g, i, none⟩ = false := by
  obtain ⟨_, cur, h1, _⟩ := h
  simp [World.frozen?, h1]
theorem InRow.below {w w' : World} {B g cap : Nat} {es : List Hit} (h : InRow w B g cap es) (hb : Below w.heap.size w w') : InRow w' B g cap es := by
  have hlt := h.lt
  obtain ⟨hB, cur, h1, h2⟩ := h
  exact ⟨hB, cur, (hb.block g hlt).trans h1, h2⟩
theorem InRow.at_ {w : World} {B g cap : Nat} {es : List Hit} (h : InRow w B g cap es) {i : Nat} (hi : i < es.length) :
    w.cell? ⟨g, i * 4, none⟩ = some (.string (es[i]).word) ∧ w.cell? ⟨g, i * 4 + 1, none⟩ = some (.int .u32 (es[i]).weight) ∧ w.cell? ⟨g, i * 4 + 2, none⟩ = some (.bool (es[i]).gone) ∧ w.cell? ⟨g, i * 4 + 3, none⟩ = some (.int .i64 (es[i]).dist) := by
  obtain ⟨_, cur, h1, h2, h3, h4, h5⟩ := h
  have key : ∀ j, j < 4 → w.cell? ⟨g, i * 4 + j, none⟩ = (es[i]).cells[j]? := fun j hj => by
    rw [cell_of_row _ _ (i * 4 + j) _ 26 (0, 0) h1, ← hcs_get es i j hi hj, ← h5, List.getElem?_take_of_lt (by omega), Array.getElem?_toList]
  exact ⟨key 0 (by omega), key 1 (by omega), key 2 (by omega), key 3 (by omega)⟩
/-- a hit's four cells laid -/
def put4 (w : World) (g i : Nat) (x : Hit) : World := (((w.setCell ⟨g, i * 4, none⟩ (.string x.word)).setCell ⟨g, i * 4 + 1, none⟩ (.int .u32 x.weight)).setCell ⟨g, i * 4 + 2, none⟩ (.bool x.gone)).setCell ⟨g, i * 4 + 3, none⟩ (.int .i64 x.dist)
theorem InRow.put {w : World} {B g cap : Nat} {es : List Hit} (h : InRow w B g cap es) {i : Nat} (hi : i < es.length) (x : Hit) : InRow (put4 w g i x) B g cap (es.set i x) := by
  obtain ⟨hB, cur, h1, h2, h3, h4, h5⟩ := h
  refine ⟨hB, _, set_block (set_block (set_block (set_block h1 _) _) _) _, by simpa using h2, h3, by simpa using h4, ?_⟩
  have hcl : (i + 1) * 4 ≤ cur.size := by rw [h4]; exact Nat.mul_le_mul_right 4 (by omega)
  refine List.ext_getElem? fun t => ?_
  have hlen : (es.set i x).length = es.length := by simp
  by_cases ht : t < es.length * 4
  · rw [List.getElem?_take_of_lt (by rw [hlen]; exact ht), Array.getElem?_toList]
    have e1 := hcs_get (es.set i x) (t / 4) (t % 4) (by rw [hlen]; omega) (by omega)
    rw [show t / 4 * 4 + t % 4 = t by omega] at e1
    rw [e1]
    have e0 := hcs_get es (t / 4) (t % 4) (by omega) (by omega)
    rw [show t / 4 * 4 + t % 4 = t by omega, ← h5, List.getElem?_take_of_lt ht, Array.getElem?_toList] at e0
    by_cases hti : t / 4 = i
    · have hg : (es.set i x)[t / 4]'(by rw [hlen]; omega) = x := by simp [hti]
      rw [hg]
      have h4c : t = i * 4 ∨ t = i * 4 + 1 ∨ t = i * 4 + 2 ∨ t = i * 4 + 3 := by omega
      rcases h4c with e | e | e | e
      · subst e; rw [show i * 4 % 4 = 0 by omega]; simp [Array.getElem?_setIfInBounds, Hit.cells]; omega
      · subst e; rw [show (i * 4 + 1) % 4 = 1 by omega]; simp [Array.getElem?_setIfInBounds, Hit.cells]; omega
      · subst e; rw [show (i * 4 + 2) % 4 = 2 by omega]; simp [Array.getElem?_setIfInBounds, Hit.cells]; omega
      · subst e; rw [show (i * 4 + 3) % 4 = 3 by omega]; simp [Array.getElem?_setIfInBounds, Hit.cells]; omega
    · have hg : (es.set i x)[t / 4]'(by rw [hlen]; omega) = es[t / 4]'(by omega) := by rw [List.getElem_set_ne (fun e => hti e.symm)]
      rw [hg, ← e0]
      rw [Array.getElem?_setIfInBounds_ne (by omega), Array.getElem?_setIfInBounds_ne (by omega), Array.getElem?_setIfInBounds_ne (by omega), Array.getElem?_setIfInBounds_ne (by omega)]
  · rw [List.getElem?_take_eq_none (by rw [hlen]; omega), List.getElem?_eq_none (by rw [hcs_length, hlen]; omega)]
theorem put4_below {w w0 : World} {B g i : Nat} {x : Hit} (h : Below B w0 w) (hg : B ≤ g) : Below B w0 (put4 w g i x) :=
  (((h.setCell (p := ⟨g, i * 4, none⟩) hg _).setCell (p := ⟨g, i * 4 + 1, none⟩) hg _).setCell (p := ⟨g, i * 4 + 2, none⟩) hg _).setCell (p := ⟨g, i * 4 + 3, none⟩) hg _
end Go.Proofs.Ytjpgcfcacfhmiaa
