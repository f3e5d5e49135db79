/- The methods of rank's heap (worst): Len, Less, Swap, on a row of hits. -/
import Derived.Test.YtjpgcfcacfhmiaaRTop
namespace Go.Proofs.Ytjpgcfcacfhmiaa
open Go.RowKit
set_option linter.unusedSimpArgs false
set_option linter.unusedVariables false
set_option linter.unnecessarySimpa false
theorem len26 (A : Option Addr) (n c : Nat) (w : World) : Calls Try.prog 26 #[.slice A n c] w fun e w' => e = .returned (.int .i64 n) ∧ w = w' := by
  go_enter Try.func26, Try.ntmps26
  go_wp2
  go_ret
  exact ⟨rfl, rfl⟩
set_option maxHeartbeats 2000000 in
theorem less75 (es : List Hit) (g cap : Nat) (B : Nat) (i j : Nat) (w : World) (hi : i < es.length) (hj : j < es.length) (h : InRow w B g cap es) :
    Calls Try.prog 75 #[.slice (some ⟨g, 0, none⟩) es.length cap, .int .i64 i, .int .i64 j] w fun e w' => e = .returned (.bool (lessH es[j] es[i])) ∧ Below w.heap.size w w' := by
  have hi' : (i : Int) < (es.length : Int) := by omega
  have hj' : (j : Int) < (es.length : Int) := by omega
  have mk : ∀ w', Below w.heap.size w w' → (w'.cell? ⟨g, i * 4, none⟩ = some (.string (es[i]).word) ∧ w'.cell? ⟨g, i * 4 + 1, none⟩ = some (.int .u32 (es[i]).weight) ∧ w'.cell? ⟨g, i * 4 + 2, none⟩ = some (.bool (es[i]).gone) ∧ w'.cell? ⟨g, i * 4 + 3, none⟩ = some (.int .i64 (es[i]).dist) ∧ w'.cell? ⟨g, j * 4, none⟩ = some (.string (es[j]).word) ∧ w'.cell? ⟨g, j * 4 + 1, none⟩ = some (.int .u32 (es[j]).weight) ∧ w'.cell? ⟨g, j * 4 + 2, none⟩ = some (.bool (es[j]).gone) ∧ w'.cell? ⟨g, j * 4 + 3, none⟩ = some (.int .i64 (es[j]).dist)) := fun w' hb' =>
    have a := (h.below hb').at_ hi
    have b := (h.below hb').at_ hj
    ⟨a.1, a.2.1, a.2.2.1, a.2.2.2, b.1, b.2.1, b.2.2.1, b.2.2.2⟩
  have MK := Lib.hid mk
  have HY := Lib.hid (less10 es[j] es[i])
  have hbd : Below w.heap.size w w.drew := (Below.refl _ _).drew
  clear mk h
  generalize es[j] = y at *
  generalize es[i] = x at *
  generalize lessH y x = q at *
  go_enter Try.func75, Try.ntmps75
  go_wp2
  go_region_held3 (fun w' => w'.cell? ⟨g, i * 4, none⟩ = some (.string x.word) ∧ w'.cell? ⟨g, i * 4 + 1, none⟩ = some (.int .u32 x.weight) ∧ w'.cell? ⟨g, i * 4 + 2, none⟩ = some (.bool x.gone) ∧ w'.cell? ⟨g, i * 4 + 3, none⟩ = some (.int .i64 x.dist) ∧ w'.cell? ⟨g, j * 4, none⟩ = some (.string y.word) ∧ w'.cell? ⟨g, j * 4 + 1, none⟩ = some (.int .u32 y.weight) ∧ w'.cell? ⟨g, j * 4 + 2, none⟩ = some (.bool y.gone) ∧ w'.cell? ⟨g, j * 4 + 3, none⟩ = some (.int .i64 y.dist))
    (first | exact MK.out _ hbd | exact MK.out _ hcum)
    (first | (go_at_call 10; refine (HY.out _).mono ?_; rintro e w1 ⟨rfl, hb1⟩; have hcum : Below w.heap.size w w1 := hbd.trans hb1))
  go_wp2
  go_ret
  exact ⟨rfl, hcum⟩
theorem heap_drew (w : World) : w.drew.heap = w.heap := rfl
/-- nothing but block g has turned -/
def Only (w w' : World) (g : Nat) : Prop := ∀ k, k ≠ g → w'.heap[k]? = w.heap[k]?
theorem put4_other {w : World} {g i k : Nat} {x : Hit} (h : k ≠ g) : (put4 w g i x).heap[k]? = w.heap[k]? := by
  unfold put4
  rw [Below.heap_setCell _ _ _ _ h, Below.heap_setCell _ _ _ _ h, Below.heap_setCell _ _ _ _ h, Below.heap_setCell _ _ _ _ h]
theorem InRow.drew {w : World} {B g cap : Nat} {es : List Hit} (h : InRow w B g cap es) : InRow w.drew B g cap es := ⟨h.base, h.cells⟩
def swapL (es : List Hit) (i j : Nat) (hi : i < es.length) (hj : j < es.length) : List Hit := (es.set i es[j]).set j es[i]
set_option maxHeartbeats 2000000 in
theorem swap78 (es : List Hit) (g cap : Nat) (B : Nat) (i j : Nat) (w : World) (hi : i < es.length) (hj : j < es.length) (h : InRow w B g cap es) (hB : B ≤ w.heap.size) :
    Calls Try.prog 78 #[.slice (some ⟨g, 0, none⟩) es.length cap, .int .i64 i, .int .i64 j] w fun e w' => e = .returned (.tuple #[]) ∧ InRow w' B g cap (swapL es i j hi hj) ∧ Below B w w' ∧ Only w w' g := by
  have hi' : (i : Int) < (es.length : Int) := by omega
  have hj' : (j : Int) < (es.length : Int) := by omega
  have hd := h
  obtain ⟨a0, a1, a2, a3⟩ := hd.at_ hi
  obtain ⟨b0, b1, b2, b3⟩ := hd.at_ hj
  have hf := hd.frozen
  have h1 := hd.put hi es[j]
  have h2 := h1.put (show j < (es.set i es[j]).length by simpa using hj) es[i]
  obtain ⟨c0, c1, c2, c3⟩ := h1.at_ (show j < (es.set i es[j]).length by simpa using hj)
  have hf1 := h1.frozen
  have hbd : Below B w w.drew := (Below.refl _ _).drew
  have hb2 : Below B w (put4 (put4 w g i es[j]) g j es[i]) := put4_below (put4_below (Below.refl _ _) h.base) h.base
  have H2 := Lib.hid h2
  have HB2 := Lib.hid hb2
  clear h2 hb2 h1 hd hbd h
  generalize (es.set i es[j])[j]'(by simpa using hj) = z at *
  unfold swapL
  unfold put4 at *
  generalize hXX : (es.set i es[j]).set j es[i] = X at *
  clear hXX
  generalize es[j] = y at *
  generalize es[i] = x at *
  go_enter Try.func78, Try.ntmps78
  go_wp2
  go_region
  all_goals
    go_end0
    exact ⟨rfl, InRow.drew H2.out, HB2.out.drew, fun k hk => by
      rw [heap_drew, Below.heap_setCell _ _ _ _ hk, Below.heap_setCell _ _ _ _ hk, Below.heap_setCell _ _ _ _ hk, Below.heap_setCell _ _ _ _ hk, Below.heap_setCell _ _ _ _ hk, Below.heap_setCell _ _ _ _ hk, Below.heap_setCell _ _ _ _ hk, Below.heap_setCell _ _ _ _ hk]⟩
end Go.Proofs.Ytjpgcfcacfhmiaa
