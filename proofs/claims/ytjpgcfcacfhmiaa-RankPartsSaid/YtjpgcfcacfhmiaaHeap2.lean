/- rank's heap in memory: Pop. -/
import Derived.Test.YtjpgcfcacfhmiaaHeap1
namespace Go.Proofs.Ytjpgcfcacfhmiaa
open Go.RowKit
set_option linter.unusedSimpArgs false
set_option linter.unusedVariables false
set_option linter.unnecessarySimpa false
theorem InRow.shrink {w : World} {B g cap : Nat} {es : List Hit} {x : Hit} (h : InRow w B g cap (es ++ [x])) : InRow w B g cap es := by
  obtain ⟨hB, cur, h1, h2, h3, h4, h5⟩ := h
  refine ⟨hB, cur, h1, by simp at h2; omega, h3, h4, ?_⟩
  have e1 : (cur.toList.take ((es ++ [x]).length * 4)).take (es.length * 4) = cur.toList.take (es.length * 4) := by
    rw [List.take_take, Nat.min_eq_left (by simp; omega)]
  rw [← e1, h5, hcs_append]
  exact List.take_left' (hcs_length es)
set_option maxHeartbeats 2000000 in
theorem pop76 (B gp : Nat) (es : List Hit) (x : Hit) (w : World) (h : Hp w B gp (es ++ [x])) (hl : es.length ≤ 1000000) (hB : B ≤ w.heap.size) :
    Calls Try.prog 76 #[.pointer (some ⟨gp, 0, none⟩)] w fun e w' => e = .returned (.iface 26 x.agg) ∧ Hp w' B gp es ∧ Below B w w' := by
  obtain ⟨hbg, v, hbx, hown⟩ := h
  obtain ⟨g, cap, rfl, hrow⟩ := OHs.row hown (by simp)
  have hng := row_ne_box hbx hown
  have hgp : g ≠ gp := fun e => hng (by rw [e]; rfl)
  have hlen : (es ++ [x]).length = es.length + 1 := by simp
  rw [hlen] at hbx
  have hcap : es.length + 1 ≤ cap := by obtain ⟨_, cur, _, h2, _⟩ := hrow; simpa using h2
  obtain ⟨a0, a1, a2, a3⟩ := hrow.at_ (i := es.length) (by simp)
  have hx : (es ++ [x])[es.length]'(by simp) = x := by simp
  rw [hx] at a0 a1 a2 a3
  have c0 := hbx.cell
  have f0 := hbx.frozen
  have hlt := hbx.lt
  have hw1 : ((es.length : Int) + 1) - 1 = (es.length : Int) := by omega
  have hba : Below w.heap.size w (w.alloc (.cells #[.string x.word, .int .u32 x.weight, .bool x.gone, .int .i64 x.dist] 26)) := (Below.refl _ _).alloc (Nat.le_refl _) _
  have hbx1 : Box1 (w.alloc (.cells #[.string x.word, .int .u32 x.weight, .bool x.gone, .int .i64 x.dist] 26)) gp 61 (.slice (some ⟨g, 0, none⟩) (es.length + 1) cap) := (hba.block gp hlt).trans hbx
  have c1 := hbx1.cell
  have f1 := hbx1.frozen
  have HBX := Lib.hid hbx
  have HSH := Lib.hid hrow.shrink
  clear hown hng hx hrow hbx hbx1
  simp only [Hit.agg]
  go_enter Try.func76, Try.ntmps76
  go_wp2
  all_goals
    go_ret
    have hb1 : Below B w (w.setCell ⟨gp, 0, none⟩ (.slice (some ⟨g, 0, none⟩) es.length cap)) := (Below.refl _ _).setCell (p := ⟨gp, 0, none⟩) hbg _
    have hb2 : Below (w.setCell ⟨gp, 0, none⟩ (.slice (some ⟨g, 0, none⟩) es.length cap)).heap.size (w.setCell ⟨gp, 0, none⟩ (.slice (some ⟨g, 0, none⟩) es.length cap)) ((w.setCell ⟨gp, 0, none⟩ (.slice (some ⟨g, 0, none⟩) es.length cap)).alloc (.cells #[.string x.word, .int .u32 x.weight, .bool x.gone, .int .i64 x.dist] 26)) := (Below.refl _ _).alloc (Nat.le_refl _) _
    have h3 := HBX.out.set (.slice (some ⟨g, 0, none⟩) es.length cap)
    exact ⟨rfl, ⟨hbg, _, (hb2.block gp h3.lt).trans h3, ((HSH.out.setCell hgp).below hb2).own⟩, hb1.alloc (Nat.le_trans hB hb1.size) _⟩
end Go.Proofs.Ytjpgcfcacfhmiaa
