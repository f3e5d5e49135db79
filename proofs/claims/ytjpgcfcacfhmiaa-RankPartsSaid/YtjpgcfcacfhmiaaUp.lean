/- container/heap's up and down on rank's heap, walked. -/
import Derived.Test.YtjpgcfcacfhmiaaMeth
import Derived.Test.YtjpgcfcacfhmiaaHeapP
namespace Go.Proofs.Ytjpgcfcacfhmiaa
open Go.RowKit
set_option linter.unusedSimpArgs false
set_option linter.unusedVariables false
set_option linter.unnecessarySimpa false
/-- the heap's slice, read -/
theorem Hp.open_ {w : World} {B gp : Nat} {es : List Hit} (h : Hp w B gp es) (h0 : 0 < es.length) : ∃ g cap, w.cell? ⟨gp, 0, none⟩ = some (.slice (some ⟨g, 0, none⟩) es.length cap) ∧ InRow w B g cap es ∧ g ≠ gp ∧ Box1 w gp 61 (.slice (some ⟨g, 0, none⟩) es.length cap) := by
  obtain ⟨hB, v, hb, ho⟩ := h
  have hn := row_ne_box hb ho
  obtain ⟨g, cap, rfl, hr⟩ := OHs.row ho h0
  exact ⟨g, cap, hb.cell, hr, fun e => hn (by rw [e]; rfl), hb⟩
set_option maxHeartbeats 4000000 in
set_option maxRecDepth 100000 in
theorem up37 (B gp : Nat) (es : List Hit) (j : Nat) (w : World) (hj : j < es.length) (h : Hp w B gp es) (hu : UpInv es j) (hl : es.length ≤ 1000000) (hB : B ≤ w.heap.size) :
    Calls Try.prog 37 #[.iface 60 (.pointer (some ⟨gp, 0, none⟩)), .int .i64 j] w fun e w' => e = .returned (.tuple #[]) ∧ (∃ es', es'.Perm es ∧ Heaped es'.length es' ∧ Hp w' B gp es') ∧ Below B w w' := by
  go_enter Try.func37, Try.ntmps37
  go_wp2
  go_loopg [1] (j + 1) (fun k v1 wr => ∃ (i : Nat) (es' : List Hit), k = i + 1 ∧ i < es'.length ∧ v1 = .int .i64 i ∧ es'.Perm es ∧ UpInv es' i ∧ Hp wr B gp es' ∧ Below B w wr)
  case atStart => exact ⟨j, es, rfl, hj, rfl, List.Perm.refl _, hu, h, Below.refl _ _⟩
  case round =>
    obtain ⟨i, es', hk, hi, rfl, hpm, hui, hp, hb⟩ := hrel
    have HK := Lib.hid hk
    have hle := hpm.length_eq
    clear hk
    rcases Nat.eq_zero_or_pos i with h0 | h0
    · have hi0 : (i : Int) = 0 := by omega
      subst h0
      have HU := Lib.hid (up_zero hui)
      go_wp2
      go_end0
      exact ⟨rfl, ⟨es', hpm, HU.out, hp⟩, hb⟩
    · obtain ⟨p, hpi⟩ : ∃ p, (i - 1) / 2 = p := ⟨_, rfl⟩
      have hpl : p < es'.length := by omega
      have hw1 : wrap64 ((i : Int) - 1) = (i : Int) - 1 := by unfold wrap64; omega
      have hw2 : wrap64 (((i : Int) - 1).tdiv 2) = (p : Int) := by
        rw [Int.tdiv_eq_ediv_of_nonneg (by omega)]
        unfold wrap64; omega
      have hne : ((p : Int) == (i : Int)) = false := by simp; omega
      obtain ⟨g, cap, c0, hrow, hgg, hbx⟩ := hp.open_ (by omega)
      have hm0 := m_less ⟨gp, 0, none⟩ wr _ c0
      have hsz := hb.size
      have hswap := swap78 es' g cap B p i
      have HLESS := Lib.hid (less75 es' g cap B i p wr hi hpl hrow)
      have HSTOP : Hid (lessH (gt es' p) (gt es' i) = false → Heaped es'.length es') := Lib.hid (fun hf => up_stop hui (by rw [hpi]; exact hf))
      have HSTEP : Hid (lessH (gt es' p) (gt es' i) = true → UpInv (swapL es' p i hpl hi) p) := Lib.hid (fun ht => by
        have := up_step hi h0 hui (by rw [hpi]; exact ht)
        subst hpi
        exact this)
      rw [gt_eq hpl, gt_eq hi] at HLESS
      have HPI := Lib.hid hpi
      have HPM := Lib.hid hpm
      have HHP := Lib.hid hp
      have HLE := Lib.hid hle
      have HROW := Lib.hid hrow
      have HBX := Lib.hid hbx
      clear hpi hui hpm hp hle hrow hbx hu h hswap
      generalize lessH (gt es' p) (gt es' i) = q at *
      cases q
      · go_wp2_with (go_at_call 75; refine HLESS.out.mono ?_; rintro e w1 ⟨rfl, hb1⟩)
        go_end0
        have hbw := hb.trans (hb1.mono (by omega))
        have hbx1 : Box1 w1 gp 61 (.slice (some ⟨g, 0, none⟩) es'.length cap) := (hb1.block gp HBX.out.lt).trans HBX.out
        exact ⟨rfl, ⟨es', HPM.out, HSTOP.out (by first | trivial | rfl), ⟨HHP.out.base, _, hbx1, (HROW.out.below hb1).own⟩⟩, hbw⟩
      · go_wp2_with (first
          | (go_at_call 75; refine HLESS.out.mono ?_; rintro e w1 ⟨rfl, hb1⟩; have hbx1 : Box1 w1 gp 61 (.slice (some ⟨g, 0, none⟩) es'.length cap) := (hb1.block gp HBX.out.lt).trans HBX.out; have c1 := hbx1.cell; have hm1 := m_swap ⟨gp, 0, none⟩ w1 _ c1; have hrow1 := HROW.out.below hb1; have hs1 := hb1.size)
          | (go_at_call 78; refine (swap78 es' g cap B p i w1 hpl hi hrow1 (by omega)).mono ?_; rintro e w2 ⟨rfl, hrow2, hb2, hot2⟩))
        go_roundg (p + 1)
        case rel =>
          refine ⟨p, swapL es' p i hpl hi, rfl, by rw [swapL_length]; exact hpl, rfl, (swapL_perm _ _ _ _ _).trans HPM.out, HSTEP.out (by first | trivial | rfl), ⟨HHP.out.base, _, (hot2 gp (Ne.symm hgg)).trans hbx1, hrow2.own' (by rw [swapL_length])⟩, (hb.trans (hb1.mono (by omega))).trans hb2⟩
        case measure => rw [HK.out]; have := HPI.out; omega
end Go.Proofs.Ytjpgcfcacfhmiaa
