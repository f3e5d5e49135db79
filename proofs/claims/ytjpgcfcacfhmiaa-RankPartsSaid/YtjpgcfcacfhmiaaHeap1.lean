/- rank's heap in memory: Push and Pop of the row behind the pointer. -/
import Derived.Test.YtjpgcfcacfhmiaaHeap0
import Derived.Deep.RegionLaw
namespace Go.Proofs.Ytjpgcfcacfhmiaa
open Go.RowKit
set_option linter.unusedSimpArgs false
set_option linter.unusedVariables false
set_option linter.unnecessarySimpa false
/-- a box that the call itself made: one cell -/
def Box1 (w : World) (g : Nat) (t : TypeId) (v : Value) : Prop := w.heap[g]? = some (.cells #[v] t (0, 0))
theorem Box1.cell {w : World} {g : Nat} {t : TypeId} {v : Value} (h : Box1 w g t v) : w.cell? ⟨g, 0, none⟩ = some v := cell_of_row _ _ 0 _ t (0, 0) h
theorem Box1.lt {w : World} {g : Nat} {t : TypeId} {v : Value} (h : Box1 w g t v) : g < w.heap.size := (Array.getElem?_eq_some_iff.1 h).1
theorem Box1.frozen {w : World} {g : Nat} {t : TypeId} {v : Value} (h : Box1 w g t v) : w.frozen? ⟨g, 0, none⟩ = false := by
  unfold Box1 at h
  simp [World.frozen?, h]
theorem Box1.set {w : World} {g : Nat} {t : TypeId} {v : Value} (h : Box1 w g t v) (u : Value) : Box1 (w.setCell ⟨g, 0, none⟩ u) g t u := by
  have := set_block (i := 0) h u
  unfold Box1
  rw [this]; rfl
/-- the heap: a pointer's block, that holds the row of es -/
structure Hp (w : World) (B gp : Nat) (es : List Hit) : Prop where
  base : B ≤ gp
  row : ∃ v, Box1 w gp 61 v ∧ OHs w B v es
theorem row_ne_box {w : World} {B gp : Nat} {v u : Value} {es : List Hit} (hb : Box1 w gp 61 u) (ho : OHs w B v es) : v.ownBlock ≠ some gp := by
  rcases ho.2 with ⟨rfl, _⟩ | ⟨g, cap, cur, rfl, _, hh, _⟩
  · simp [Value.ownBlock]
  · intro e
    simp [Value.ownBlock] at e
    subst e
    unfold Box1 at hb
    rw [hb] at hh
    injection hh with hh
    injection hh with _ hh
    cases hh
theorem step_append_one {ops : Array Oper} {o : Oper} {a : Act} {K : Act → World → Prop} {Q : Exit → Act → World → Prop} {E : Prop} {W : World}
    (hgd : o.guard = none) (s x : Operand) (ho : o.op = .call { callee := .builtin .append, args := #[s, x], argTypes := #[61, 61] })
    (base : Nat) (v : Value) (es : List Hit) (y : Hit) (hs : a.eval s = v) (hown : OHs W base v es) (g : Nat) (hx : a.eval x = .slice (some ⟨g, 0, none⟩) 1 1)
    (hc : W.heap[g]? = some (.cells #[.string y.word, .int .u32 y.weight, .bool y.gone, .int .i64 y.dist] 26 (0, 0))) (hl : es.length ≤ 1000000000) (hbase : base ≤ W.heap.size)
    (h : ∀ v' w', OHs w' base v' (es ++ [y]) → W.grownBy w' v.ownBlock → Below base W w' → K (a.put o.dst v') w') :
    if Region.wanted o (yielded ops a.tmps) = true then Oper.wp Try.prog o a W K Q else E := by
  have hw : Region.wanted o (yielded ops a.tmps) = true := by simp [Region.wanted, hgd]
  rw [if_pos hw]
  obtain ⟨i0, hi, hz0, hz1, hz2⟩ := info_parts info26
  obtain ⟨c0, c1, c2, c3⟩ := box4_cells hc
  refine wp_append_own W s x 61 ho base 26 i0 _ 4 32 Try.underlying61 hi hz0 hz1 hz2 rfl (by decide) v es.length (hcs es) hs hown ⟨g, 0, none⟩ 1 1 [.string y.word, .int .u32 y.weight, .bool y.gone, .int .i64 y.dist] hx rfl ?_ ?_ ?_ ?_ hbase ?_
  · intro j u hu
    have hj : j < 4 := by
      rcases Nat.lt_or_ge j 4 with hlt | hge
      · exact hlt
      · rw [List.getElem?_eq_none (by simpa using hge)] at hu; cases hu
    have ha : (⟨g, 0, none⟩ : Addr).add j = ⟨g, j, none⟩ := by unfold Addr.add; split <;> simp_all
    rw [ha, ← hu]
    match j, hj with
    | 0, _ => exact c0
    | 1, _ => exact c1
    | 2, _ => exact c2
    | 3, _ => exact c3
  · intro u hu; simp at hu; rcases hu with rfl | rfl | rfl | rfl <;> rfl
  · unfold maxLen; omega
  · omega
  · intro v' w' ho' hg' _
    refine h v' w' ?_ hg' ((Below.refl base W).grown hg' hbase (fun k hk => (hown.lt k hk).1))
    have e1 : hcs [y] = [.string y.word, .int .u32 y.weight, .bool y.gone, .int .i64 y.dist] := rfl
    unfold OHs; rw [hcs_append, e1, List.length_append]; exact ho'
theorem InRow.setCell {w : World} {B g cap : Nat} {es : List Hit} (h : InRow w B g cap es) {p i : Nat} (hne : g ≠ p) {u : Value} : InRow (w.setCell ⟨p, i, none⟩ u) B g cap es := by
  obtain ⟨hB, cur, h1, h2⟩ := h
  exact ⟨hB, cur, (Below.heap_setCell _ _ _ _ hne).trans h1, h2⟩
theorem InRow.own' {w : World} {B g cap n : Nat} {es : List Hit} (h : InRow w B g cap es) (hn : n = es.length) : OHs w B (.slice (some ⟨g, 0, none⟩) n cap) es := by subst hn; exact h.own
set_option maxHeartbeats 2000000 in
theorem push77 (B gp : Nat) (es : List Hit) (x : Hit) (w : World) (h : Hp w B gp es) (hl : es.length ≤ 1000000) (hB : B ≤ w.heap.size) :
    Calls Try.prog 77 #[.pointer (some ⟨gp, 0, none⟩), .iface 26 x.agg] w fun e w' => e = .returned (.tuple #[]) ∧ Hp w' B gp (es ++ [x]) ∧ Below B w w' := by
  obtain ⟨hbg, v, hbx, hown⟩ := h
  have c0 := hbx.cell
  have f0 := hbx.frozen
  have hlt := hbx.lt
  have HBX := Lib.hid hbx
  have HOW := Lib.hid hown
  clear hbx hown
  have hta : ∀ w', (Instr.typeAssert (.iface 26 (.agg #[.string x.word, .int .u32 x.weight, .bool x.gone, .int .i64 x.dist])) 20 26 false).run Try.prog w' = .ok (.agg #[.string x.word, .int .u32 x.weight, .bool x.gone, .int .i64 x.dist]) w' := fun _ => by kernel_rfl
  simp only [Hit.agg]
  go_enter Try.func77, Try.ntmps77
  go_wp2
  have hba : Below w.heap.size w (w.alloc (.cells #[.string x.word, .int .u32 x.weight, .bool x.gone, .int .i64 x.dist] 26)).drew := ((Below.refl _ _).alloc (Nat.le_refl _) _).drew
  have hna : v.ownBlock ≠ some gp := row_ne_box HBX.out HOW.out
  go_region_law (refine step_append_one rfl _ _ rfl B v es x rfl (by with_reducible exact own_below HOW.out hba) w.heap.size rfl (by exact heap_alloc_new w _) (by omega) (by simp; omega) ?_; intro v1 w1 hown1 hg1 hb1; have hbx1 : Box1 w1 gp 61 v := (hg1.block gp (by simp; omega) (fun e => hna e.symm)).trans ((hba.block gp hlt).trans HBX.out); have hnb := row_ne_box hbx1 hown1; obtain ⟨g1, cap1, rfl, hrow1⟩ := OHs.row hown1 (by simp); have cx := hbx1.cell; have fx := hbx1.frozen)
  all_goals
    go_end0
    exact ⟨rfl, ⟨hbg, _, hbx1.set _, (hrow1.setCell (fun e => hnb (by rw [e]; rfl))).own' (by simp)⟩, ((hba.mono hB).trans hb1).setCell (p := ⟨gp, 0, none⟩) hbg _⟩
end Go.Proofs.Ytjpgcfcacfhmiaa
