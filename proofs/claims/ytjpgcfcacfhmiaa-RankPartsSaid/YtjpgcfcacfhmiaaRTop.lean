/- The document's first ones (ref21.Top), walked. -/
import Derived.Test.YtjpgcfcacfhmiaaRSort
namespace Go.Proofs.Ytjpgcfcacfhmiaa
open Go.RowKit
set_option linter.unusedSimpArgs false
set_option linter.unusedVariables false
set_option linter.unnecessarySimpa false
def topH (n : Int) (es : List Hit) : List Hit := (sortH es).take n.toNat
/-- hits and a code -/
def RetTop (w : World) (es : List Hit) (code : Int) (e : Ending) (w' : World) : Prop :=
  ∃ A c, e = .returned (.tuple #[.slice A es.length c, .int .i64 code]) ∧ es.length ≤ c ∧ RHs w' w'.heap.size A es ∧ Below w.heap.size w w'
theorem RHs.take {w : World} {B : Nat} {A : Option Addr} {es : List Hit} (h : RHs w B A es) (n : Nat) : RHs w B A (es.take n) := by
  refine ⟨⟨hcs_length _, fun h0 => ?_⟩, fun h0 b off e => h.ty (by simp at h0; omega) b off e⟩
  have hl : 0 < es.length := by simp at h0; omega
  obtain ⟨b, off, e, hb, hc⟩ := h.rd.2 hl
  refine ⟨b, off, e, hb, fun j u hu => hc j u ?_⟩
  have e1 : es = es.take n ++ es.drop n := (List.take_append_drop n es).symm
  have hj : j < (hcs (es.take n)).length := (List.getElem?_eq_some_iff.1 hu).1
  rw [e1, hcs_append, List.getElem?_append_left hj]
  exact hu
theorem topH_length (n : Int) (es : List Hit) : (topH n es).length = (min n es.length).toNat := by
  unfold topH
  rw [List.length_take, sortH_length]
  omega
theorem rtop16 (n : Int) (es : List Hit) (A : Option Addr) (c : Nat) (w : World) (hl : es.length ≤ 1000000) (h : RHs w w.heap.size A es) :
    Calls Try.prog 16 #[.int .i64 n, .slice A es.length c] w (RetTop w (topH n es) (if n < 0 then 2 else 0)) := by
  by_cases hn : n < 0
  · have e0 : topH n es = [] := by unfold topH; rw [show n.toNat = 0 by omega]; rfl
    go_enter Try.func16, Try.ntmps16
    go_wp2
    go_ret2
    exact ⟨none, 0, rfl, Nat.le_refl 0, RHs.nil_, Below.refl _ _⟩
  · have hsl := sortH_length es
    have hT := topH_length n es
    have HT := Lib.hid hT
    clear hT
    have hle : (topH n es).length ≤ (sortH es).length := by unfold topH; rw [List.length_take]; omega
    have HLE := Lib.hid hle
    clear hle
    go_enter Try.func16, Try.ntmps16
    go_wp2_with (go_at_call 14; refine (rsort14 es A c w hl h).mono ?_; rintro e w1 ⟨A1, c1, rfl, hc1, hr1, hb1⟩)
    all_goals
      go_ret2
      exact ⟨A1, c1, by rw [HT.out]; rfl, Nat.le_trans HLE.out hc1, hr1.take _, hb1⟩
end Go.Proofs.Ytjpgcfcacfhmiaa
