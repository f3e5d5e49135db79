/- container/heap's down on rank's heap, walked. -/
import Derived.Test.YtjpgcfcacfhmiaaPush
namespace Go.Proofs.Ytjpgcfcacfhmiaa
open Go.RowKit
set_option linter.unusedSimpArgs false
set_option linter.unusedVariables false
set_option linter.unnecessarySimpa false
theorem less75g (es : List Hit) (g cap : Nat) (B : Nat) (i j : Nat) (w : World) (hi : i < es.length) (hj : j < es.length) (h : InRow w B g cap es) :
    Calls Try.prog 75 #[.slice (some ⟨g, 0, none⟩) es.length cap, .int .i64 i, .int .i64 j] w fun e w' => e = .returned (.bool (lessH (gt es j) (gt es i))) ∧ Below w.heap.size w w' := by
  have := less75 es g cap B i j w hi hj h
  rw [gt_eq hi, gt_eq hj] at this
  exact this
theorem worst_case (es : List Hit) (n i : Nat) (h : 2 * i + 1 < n) : ∃ j, j < n ∧ (j = 2 * i + 1 ∨ j = 2 * i + 2) ∧ (∀ s, (s = 2 * i + 1 ∨ s = 2 * i + 2) → s < n → ok (gt es j) (gt es s)) ∧
    ((2 * i + 2 < n ∧ lessH (gt es (2 * i + 1)) (gt es (2 * i + 2)) = true ∧ j = 2 * i + 2) ∨ (2 * i + 2 < n ∧ lessH (gt es (2 * i + 1)) (gt es (2 * i + 2)) = false ∧ j = 2 * i + 1) ∨ (n ≤ 2 * i + 2 ∧ j = 2 * i + 1)) := by
  by_cases h2 : 2 * i + 2 < n
  · cases hq : lessH (gt es (2 * i + 1)) (gt es (2 * i + 2)) with
    | true =>
      refine ⟨2 * i + 2, h2, .inr rfl, fun s hs _ => ?_, .inl ⟨h2, rfl, rfl⟩⟩
      rcases hs with rfl | rfl
      · exact ok_of_lt hq
      · exact lt_irrefl _
    | false =>
      refine ⟨2 * i + 1, h, .inl rfl, fun s hs _ => ?_, .inr (.inl ⟨h2, rfl, rfl⟩)⟩
      rcases hs with rfl | rfl
      · exact lt_irrefl _
      · exact hq
  · refine ⟨2 * i + 1, h, .inl rfl, fun s hs hsn => ?_, .inr (.inr ⟨by omega, rfl⟩)⟩
    rcases hs with rfl | rfl
    · exact lt_irrefl _
    · omega
set_option maxHeartbeats 8000000 in
set_option maxRecDepth 100000 in
theorem down38 (B gp : Nat) (es : List Hit) (n : Nat) (w : World) (hn : n ≤ es.length) (h0 : 0 < es.length) (h : Hp w B gp es) (hd : DownInv n es 0) (hl : es.length ≤ 1000000) (hB : B ≤ w.heap.size) :
    Calls Try.prog 38 #[.iface 60 (.pointer (some ⟨gp, 0, none⟩)), .int .i64 0, .int .i64 n] w fun e w' => (∃ b, e = .returned (.bool b)) ∧ (∃ es', es'.Perm es ∧ Heaped n es' ∧ (∀ k, n ≤ k → gt es' k = gt es k) ∧ Hp w' B gp es') ∧ Below B w w' := by
  go_enter Try.func38, Try.ntmps38
  go_wp2
  go_loopg [7] (n + 1) (fun k v7 wr => ∃ (i : Nat) (es' : List Hit), k = n + 1 - i ∧ i ≤ n ∧ v7 = .int .i64 i ∧ es'.Perm es ∧ DownInv n es' i ∧ (∀ k, n ≤ k → gt es' k = gt es k) ∧ Hp wr B gp es' ∧ Below B w wr)
  case atStart => exact ⟨0, es, rfl, Nat.zero_le _, rfl, List.Perm.refl _, hd, fun _ _ => rfl, h, Below.refl _ _⟩
  case round =>
    obtain ⟨i, es', hk, hi, rfl, hpm, hdi, hks, hp, hb⟩ := hrel
    have HK := Lib.hid hk
    have hle := hpm.length_eq
    have HPM := Lib.hid hpm
    have HKS := Lib.hid hks
    have HLE := Lib.hid hle
    have hil : (i : Int) ≤ 1000000 := by omega
    have hw1 : wrap64 (2 * (i : Int)) = 2 * (i : Int) := by unfold wrap64; omega
    obtain ⟨j1, hj1⟩ : ∃ j1, 2 * i + 1 = j1 := ⟨_, rfl⟩
    obtain ⟨j2, hj2⟩ : ∃ j2, 2 * i + 2 = j2 := ⟨_, rfl⟩
    have he1 : 2 * (i : Int) + 1 = (j1 : Int) := by omega
    have he2 : (j1 : Int) + 1 = (j2 : Int) := by omega
    have hw2 : wrap64 (j1 : Int) = (j1 : Int) := by unfold wrap64; omega
    have hw3 : wrap64 (j2 : Int) = (j2 : Int) := by unfold wrap64; omega
    have hj0 : (0 : Int) ≤ (j1 : Int) := by omega
    have HD0 := Lib.hid hdi
    have HJ1 := Lib.hid hj1
    have HJ2 := Lib.hid hj2
    have HHP := Lib.hid hp
    by_cases hc : n ≤ j1
    · have hci : (n : Int) ≤ (j1 : Int) := by omega
      have HF := Lib.hid (down_leaf hdi (by omega))
      clear hk hle hpm hks hdi hp hj1 hj2 h hd
      go_wp2
      go_ret
      exact ⟨⟨_, rfl⟩, ⟨es', HPM.out, HF.out, HKS.out, HHP.out⟩, hb⟩
    · have hci : (j1 : Int) < (n : Int) := by omega
      obtain ⟨g, cap, c0, hrow, hgg, hbx⟩ := hp.open_ (by omega)
      have hm0 := m_less ⟨gp, 0, none⟩ wr _ c0
      have hszr := hb.size
      have HROW := Lib.hid hrow
      have HBX := Lib.hid hbx
      have hg1 : True := trivial
      have G1 := Lib.hid hg1
      have hiL : i < es'.length := by omega
      obtain ⟨j, hjn, hjj, hwj, hcase⟩ := worst_case es' n i (by omega)
      rw [hj1, hj2] at hcase hjj
      rcases hcase with ⟨h2, hq1, hje⟩ | ⟨h2, hq1, hje⟩ | ⟨h2, hje⟩
      · obtain rfl : j2 = j := hje.symm
        have h2i : (j2 : Int) < (n : Int) := by omega
        have hjL : j2 < es'.length := by omega
        have HL1 := Lib.hid (less75g es' g cap B j2 j1 wr hjL (by omega) HROW.out)
        rw [hq1] at HL1
        obtain ⟨q, hqq⟩ : ∃ q, lessH (gt es' i) (gt es' j2) = q := ⟨_, rfl⟩
        have hjj : j2 = 2 * i + 1 ∨ j2 = 2 * i + 2 := by omega
        · skip
          have HSTOP : Hid (q = false → Heaped n es') := Lib.hid (fun e => down_stop HD0.out hjj hwj (by unfold ok; rw [hqq]; exact e))
          have HSTEP : Hid (q = true → DownInv n (swapL es' i j2 hiL hjL) j2) := Lib.hid (fun e => down_step hjn (by omega) hjj HD0.out hwj (by rw [hqq]; exact e))
          have HQ2 := Lib.hid hqq
          have HJN := Lib.hid hjn
          clear hqq hwj hk hle hpm hks hdi hp h hd hj1 hj2 hrow hbx hjj hjn hc h2
          cases q
          · go_wp2_with (first
              | (go_at_call 75; have _q := G1; refine HL1.out.mono ?_; rintro e wA ⟨rfl, hbA⟩; have hbxA : Box1 wA gp 61 (.slice (some ⟨g, 0, none⟩) es'.length cap) := (hbA.block gp HBX.out.lt).trans HBX.out; have cA := hbxA.cell; have hmA := m_less ⟨gp, 0, none⟩ wA _ cA; have HBXA := Lib.hid hbxA; have HRA := Lib.hid (HROW.out.below hbA); have HL2 := Lib.hid (less75g es' g cap B j2 i wA hjL hiL HRA.out); rw [HQ2.out] at HL2; clear _q G1 hbxA)
              | (go_at_call 75; refine HL2.out.mono ?_; rintro e w2 ⟨rfl, hb2⟩))
            go_ret
            exact ⟨⟨_, rfl⟩, ⟨es', HPM.out, HSTOP.out (by first | trivial | rfl), HKS.out, ⟨HHP.out.base, _, (hb2.block gp HBXA.out.lt).trans HBXA.out, (HRA.out.below hb2).own⟩⟩, (hb.trans (hbA.mono (by omega))).trans (hb2.mono (by have := hbA.size; omega))⟩
          · go_wp2_with (first
              | (go_at_call 75; have _q := G1; refine HL1.out.mono ?_; rintro e wA ⟨rfl, hbA⟩; have hbxA : Box1 wA gp 61 (.slice (some ⟨g, 0, none⟩) es'.length cap) := (hbA.block gp HBX.out.lt).trans HBX.out; have cA := hbxA.cell; have hmA := m_less ⟨gp, 0, none⟩ wA _ cA; have HBXA := Lib.hid hbxA; have HRA := Lib.hid (HROW.out.below hbA); have HL2 := Lib.hid (less75g es' g cap B j2 i wA hjL hiL HRA.out); rw [HQ2.out] at HL2; clear _q G1 hbxA)
              | (go_at_call 75; refine HL2.out.mono ?_; rintro e w2 ⟨rfl, hb2⟩; have hbx2 : Box1 w2 gp 61 (.slice (some ⟨g, 0, none⟩) es'.length cap) := (hb2.block gp HBXA.out.lt).trans HBXA.out; have c2 := hbx2.cell; have hm2 := m_swap ⟨gp, 0, none⟩ w2 _ c2; have hrow2 := HRA.out.below hb2; have hs2 := hb2.size; have hsA := hbA.size)
              | (go_at_call 78; refine (swap78 es' g cap B i j2 w2 hiL hjL hrow2 (by omega)).mono ?_; rintro e w3 ⟨rfl, hrow3, hb3, hot3⟩))
            have hjn9 := HJN.out
            have hj19 := HJ1.out
            have hj29 := HJ2.out
            go_roundg (n + 1 - j2)
            case rel =>
              refine ⟨j2, swapL es' i j2 hiL hjL, rfl, by omega, rfl, (swapL_perm _ _ _ _ _).trans HPM.out, HSTEP.out (by first | trivial | rfl), fun k hk => ?_, ⟨HHP.out.base, _, (hot3 gp (Ne.symm hgg)).trans hbx2, hrow3.own' (by rw [swapL_length])⟩, ((hb.trans (hbA.mono (by omega))).trans (hb2.mono (by omega))).trans hb3⟩
              rw [gt_swap, if_neg (by omega), if_neg (by omega)]
              exact HKS.out k hk
            case measure => rw [HK.out]; omega
      · obtain rfl : j1 = j := hje.symm
        have h2i : (j2 : Int) < (n : Int) := by omega
        have hjL : j1 < es'.length := by omega
        have HL1 := Lib.hid (less75g es' g cap B j2 j1 wr (by omega) hjL HROW.out)
        rw [hq1] at HL1
        obtain ⟨q, hqq⟩ : ∃ q, lessH (gt es' i) (gt es' j1) = q := ⟨_, rfl⟩
        have hjj : j1 = 2 * i + 1 ∨ j1 = 2 * i + 2 := by omega
        · skip
          have HSTOP : Hid (q = false → Heaped n es') := Lib.hid (fun e => down_stop HD0.out hjj hwj (by unfold ok; rw [hqq]; exact e))
          have HSTEP : Hid (q = true → DownInv n (swapL es' i j1 hiL hjL) j1) := Lib.hid (fun e => down_step hjn (by omega) hjj HD0.out hwj (by rw [hqq]; exact e))
          have HQ2 := Lib.hid hqq
          have HJN := Lib.hid hjn
          clear hqq hwj hk hle hpm hks hdi hp h hd hj1 hj2 hrow hbx hjj hjn hc h2
          cases q
          · go_wp2_with (first
              | (go_at_call 75; have _q := G1; refine HL1.out.mono ?_; rintro e wA ⟨rfl, hbA⟩; have hbxA : Box1 wA gp 61 (.slice (some ⟨g, 0, none⟩) es'.length cap) := (hbA.block gp HBX.out.lt).trans HBX.out; have cA := hbxA.cell; have hmA := m_less ⟨gp, 0, none⟩ wA _ cA; have HBXA := Lib.hid hbxA; have HRA := Lib.hid (HROW.out.below hbA); have HL2 := Lib.hid (less75g es' g cap B j1 i wA hjL hiL HRA.out); rw [HQ2.out] at HL2; clear _q G1 hbxA)
              | (go_at_call 75; refine HL2.out.mono ?_; rintro e w2 ⟨rfl, hb2⟩))
            go_ret
            exact ⟨⟨_, rfl⟩, ⟨es', HPM.out, HSTOP.out (by first | trivial | rfl), HKS.out, ⟨HHP.out.base, _, (hb2.block gp HBXA.out.lt).trans HBXA.out, (HRA.out.below hb2).own⟩⟩, (hb.trans (hbA.mono (by omega))).trans (hb2.mono (by have := hbA.size; omega))⟩
          · go_wp2_with (first
              | (go_at_call 75; have _q := G1; refine HL1.out.mono ?_; rintro e wA ⟨rfl, hbA⟩; have hbxA : Box1 wA gp 61 (.slice (some ⟨g, 0, none⟩) es'.length cap) := (hbA.block gp HBX.out.lt).trans HBX.out; have cA := hbxA.cell; have hmA := m_less ⟨gp, 0, none⟩ wA _ cA; have HBXA := Lib.hid hbxA; have HRA := Lib.hid (HROW.out.below hbA); have HL2 := Lib.hid (less75g es' g cap B j1 i wA hjL hiL HRA.out); rw [HQ2.out] at HL2; clear _q G1 hbxA)
              | (go_at_call 75; refine HL2.out.mono ?_; rintro e w2 ⟨rfl, hb2⟩; have hbx2 : Box1 w2 gp 61 (.slice (some ⟨g, 0, none⟩) es'.length cap) := (hb2.block gp HBXA.out.lt).trans HBXA.out; have c2 := hbx2.cell; have hm2 := m_swap ⟨gp, 0, none⟩ w2 _ c2; have hrow2 := HRA.out.below hb2; have hs2 := hb2.size; have hsA := hbA.size)
              | (go_at_call 78; refine (swap78 es' g cap B i j1 w2 hiL hjL hrow2 (by omega)).mono ?_; rintro e w3 ⟨rfl, hrow3, hb3, hot3⟩))
            have hjn9 := HJN.out
            have hj19 := HJ1.out
            have hj29 := HJ2.out
            go_roundg (n + 1 - j1)
            case rel =>
              refine ⟨j1, swapL es' i j1 hiL hjL, rfl, by omega, rfl, (swapL_perm _ _ _ _ _).trans HPM.out, HSTEP.out (by first | trivial | rfl), fun k hk => ?_, ⟨HHP.out.base, _, (hot3 gp (Ne.symm hgg)).trans hbx2, hrow3.own' (by rw [swapL_length])⟩, ((hb.trans (hbA.mono (by omega))).trans (hb2.mono (by omega))).trans hb3⟩
              rw [gt_swap, if_neg (by omega), if_neg (by omega)]
              exact HKS.out k hk
            case measure => rw [HK.out]; omega
      · obtain rfl : j1 = j := hje.symm
        have h2i : ¬ (j2 : Int) < (n : Int) := by omega
        have hjL : j1 < es'.length := by omega
        obtain ⟨q, hqq⟩ : ∃ q, lessH (gt es' i) (gt es' j1) = q := ⟨_, rfl⟩
        have hjj : j1 = 2 * i + 1 ∨ j1 = 2 * i + 2 := by omega
        · skip
          have HSTOP : Hid (q = false → Heaped n es') := Lib.hid (fun e => down_stop HD0.out hjj hwj (by unfold ok; rw [hqq]; exact e))
          have HSTEP : Hid (q = true → DownInv n (swapL es' i j1 hiL hjL) j1) := Lib.hid (fun e => down_step hjn (by omega) hjj HD0.out hwj (by rw [hqq]; exact e))
          have HQ2 := Lib.hid hqq
          have HJN := Lib.hid hjn
          clear hqq hwj hk hle hpm hks hdi hp h hd hj1 hj2 hrow hbx hjj hjn hc h2
          have hbA : Below wr.heap.size wr wr := Below.refl _ _
          have HBXA := HBX
          have HRA := HROW
          have HL2 := Lib.hid (less75g es' g cap B j1 i wr hjL hiL HROW.out)
          rw [HQ2.out] at HL2
          cases q
          · go_wp2_with (first
              | (go_at_call 75; refine HL2.out.mono ?_; rintro e w2 ⟨rfl, hb2⟩))
            go_ret
            exact ⟨⟨_, rfl⟩, ⟨es', HPM.out, HSTOP.out (by first | trivial | rfl), HKS.out, ⟨HHP.out.base, _, (hb2.block gp HBXA.out.lt).trans HBXA.out, (HRA.out.below hb2).own⟩⟩, (hb.trans (hbA.mono (by omega))).trans (hb2.mono (by have := hbA.size; omega))⟩
          · go_wp2_with (first
              | (go_at_call 75; refine HL2.out.mono ?_; rintro e w2 ⟨rfl, hb2⟩; have hbx2 : Box1 w2 gp 61 (.slice (some ⟨g, 0, none⟩) es'.length cap) := (hb2.block gp HBXA.out.lt).trans HBXA.out; have c2 := hbx2.cell; have hm2 := m_swap ⟨gp, 0, none⟩ w2 _ c2; have hrow2 := HRA.out.below hb2; have hs2 := hb2.size; have hsA := hbA.size)
              | (go_at_call 78; refine (swap78 es' g cap B i j1 w2 hiL hjL hrow2 (by omega)).mono ?_; rintro e w3 ⟨rfl, hrow3, hb3, hot3⟩))
            have hjn9 := HJN.out
            have hj19 := HJ1.out
            have hj29 := HJ2.out
            go_roundg (n + 1 - j1)
            case rel =>
              refine ⟨j1, swapL es' i j1 hiL hjL, rfl, by omega, rfl, (swapL_perm _ _ _ _ _).trans HPM.out, HSTEP.out (by first | trivial | rfl), fun k hk => ?_, ⟨HHP.out.base, _, (hot3 gp (Ne.symm hgg)).trans hbx2, hrow3.own' (by rw [swapL_length])⟩, ((hb.trans (hbA.mono (by omega))).trans (hb2.mono (by omega))).trans hb3⟩
              rw [gt_swap, if_neg (by omega), if_neg (by omega)]
              exact HKS.out k hk
            case measure => rw [HK.out]; omega
end Go.Proofs.Ytjpgcfcacfhmiaa
