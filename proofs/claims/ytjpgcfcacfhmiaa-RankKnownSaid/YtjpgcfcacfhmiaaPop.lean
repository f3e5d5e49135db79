/- container/heap's Pop on rank's heap: the worst one goes. -/
import Derived.Test.YtjpgcfcacfhmiaaDown
namespace Go.Proofs.Ytjpgcfcacfhmiaa
open Go.RowKit
set_option linter.unusedSimpArgs false
set_option linter.unusedVariables false
set_option linter.unnecessarySimpa false
theorem split_last {es : List Hit} {m : Nat} (h : es.length = m + 1) : es = es.take m ++ [gt es m] := by
  have h1 : m < es.length := by omega
  rw [← gt_eq h1, ← List.take_succ_eq_append_getElem h1, ← h, List.take_length]
theorem gt_take {es : List Hit} {m k : Nat} (hk : k < m) : gt (es.take m) k = gt es k := by
  unfold gt
  simp only [List.getD_eq_getElem?_getD]
  rw [List.getElem?_take_of_lt hk]
theorem heaped_take {es : List Hit} {m : Nat} (hl : es.length = m + 1) (h : Heaped m es) : Heaped (es.take m).length (es.take m) := fun c h1 h2 => by
  have hm : (es.take m).length = m := by simp; omega
  rw [hm] at h2
  rw [gt_take h2, gt_take (by omega)]
  exact h c h1 h2
set_option maxHeartbeats 4000000 in
set_option maxRecDepth 100000 in
theorem pop27 (B gp : Nat) (es : List Hit) (m : Nat) (w : World) (h : Hp w B gp es) (hh : Heaped es.length es) (hm : es.length = m + 1) (hl : es.length ≤ 1000000) (hB : B ≤ w.heap.size) :
    Calls Try.prog 27 #[.iface 60 (.pointer (some ⟨gp, 0, none⟩))] w fun e w' => (∃ v, e = .returned (.iface 26 v)) ∧ (∃ es', (es' ++ [gt es 0]).Perm es ∧ Heaped es'.length es' ∧ Hp w' B gp es') ∧ Below B w w' := by
  obtain ⟨g, cap, c0, hrow, hgg, hbx⟩ := h.open_ (by omega)
  rw [hm] at c0
  have hlen0 := m_len ⟨gp, 0, none⟩ w _ c0
  have hswp0 := m_swap ⟨gp, 0, none⟩ w _ c0
  have hw1 : wrap64 (((m : Int) + 1) - 1) = (m : Int) := by unfold wrap64; omega
  have hmi : (m : Int) ≤ 1000000 := by omega
  have h0L : 0 < es.length := by omega
  have hmL : m < es.length := by omega
  have HSW := Lib.hid (swap78 es g cap B 0 m w h0L hmL hrow hB)
  rw [hm] at HSW
  have HD : Hid (DownInv m (swapL es 0 m h0L hmL) 0) := Lib.hid (down_start hm hh)
  have HBX := Lib.hid hbx
  have HBASE := Lib.hid h.base
  have HM := Lib.hid hm
  have HLL := Lib.hid hl
  clear h hh hrow hbx hm hl
  go_enter Try.func27, Try.ntmps27
  go_wp2_with (first
    | (go_at_call 26; refine (len26 _ _ _ _).mono ?_; rintro e w1 ⟨rfl, rfl⟩)
    | (go_at_call 78; refine HSW.out.mono ?_; rintro e w2 ⟨rfl, hrow2, hb2, hot2⟩; have hs2 := hb2.size; have HP2 : Hid (Hp w2 B gp (swapL es 0 m h0L hmL)) := Lib.hid ⟨HBASE.out, _, (hot2 gp (Ne.symm hgg)).trans HBX.out, hrow2.own' (by rw [swapL_length])⟩)
    | (go_at_call 38; refine (down38 B gp (swapL es 0 m h0L hmL) m w2 (by rw [swapL_length]; have := HM.out; omega) (by rw [swapL_length]; have := HM.out; omega) HP2.out HD.out (by rw [swapL_length]; exact HLL.out) (by omega)).mono ?_; rintro e w3 ⟨⟨bq, rfl⟩, ⟨es3, hpm3, hh3, hk3, hp3⟩, hb3⟩; have hs3 := hb3.size; have hm3 := m_pop ⟨gp, 0, none⟩ w3; have hl3 : es3.length = m + 1 := (by rw [hpm3.length_eq, swapL_length, HM.out]); have HL3 := Lib.hid hl3; have HP3 := Lib.hid hp3; have HH3 := Lib.hid hh3; have HPM3 := Lib.hid hpm3; have HK3 := Lib.hid hk3; clear hl3 hp3 hh3 hpm3 hk3)
    | (go_at_call 76; refine (pop76 B gp (es3.take m) (gt es3 m) w3 (by rw [← split_last HL3.out]; exact HP3.out) (by rw [List.length_take]; omega) (by omega)).mono ?_; rintro e w4 ⟨rfl, hp4, hb4⟩))
  go_ret
  refine ⟨⟨_, rfl⟩, ⟨es3.take m, ?_, heaped_take HL3.out HH3.out, hp4⟩, (hb2.trans hb3).trans hb4⟩
  have e1 : gt es3 m = gt es 0 := by
    rw [HK3.out m (Nat.le_refl m), gt_swap, if_pos rfl]
  rw [← e1, ← split_last HL3.out]
  exact HPM3.out.trans (swapL_perm _ _ _ _ _)
end Go.Proofs.Ytjpgcfcacfhmiaa
