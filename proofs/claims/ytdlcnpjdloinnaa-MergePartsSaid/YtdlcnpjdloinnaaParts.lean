/- The walk of MergeParts. -/
import Derived.Test.YtdlcnpjdloinnaaParts0
namespace Go.Proofs.Ytdlcnpjdloinnaa
open Go.RowKit
set_option maxHeartbeats 10000000 in
set_option maxRecDepth 100000 in
theorem partsLaw_any (D : List (List Dra)) (A : Option Addr) (c : Nat) (x y : Int) (hx0 : 0 ≤ x) (hx1 : x ≤ 255) (hy0 : 0 ≤ y) (hy1 : y ≤ 255) (w : World) (hl : D.length ≤ 9223372036854775807) (h : RDLs w w.heap.size A D) :
    Calls Try.prog 4 #[.slice A D.length c, .int .u8 x, .int .u8 y] w fun e w' => e = .returned (.bool true) ∧ Below w.heap.size w w' := by
  have hs := listsOf_rises D
  have hls := listsOf_len D
  have h6 := listsOf_six D
  have ht := total_lists D
  have HS := Lib.hid hs
  have HLS := Lib.hid hls
  clear hs hls
  go_enter Try.func4, Try.ntmps4
  go_upto_region 4 with (first
    | (go_at_call 9; refine (works_any _).mono ?_; rintro e w1 ⟨rfl, hb1⟩; have hsz1 := hb1.size)
    | (go_at_call 10; refine (lists10_any D A c _ hl ((h.below hb1).more hsz1)).mono ?_; rintro e w2 ⟨A2, c2, rfl, hc2, hr2, hS2, hb2⟩; have hb02 := hb1.trans (hb2.mono hsz1); have hsz2 := hb02.size))
  generalize hLL : listsOf D = L at *
  clear hLL
  obtain ⟨n1, hn1⟩ := Int.eq_ofNat_of_zero_le (Int.emod_nonneg x (show ((L.length : Int) + 1) ≠ 0 by omega))
  obtain ⟨n2, hn2⟩ := Int.eq_ofNat_of_zero_le (Int.emod_nonneg y (show ((L.length : Int) + 1) ≠ 0 by omega))
  have hl1 : n1 ≤ L.length := by have := Int.emod_lt_of_pos x (show (0 : Int) < (L.length : Int) + 1 by omega); omega
  have hl2 : n2 ≤ L.length := by have := Int.emod_lt_of_pos y (show (0 : Int) < (L.length : Int) + 1 by omega); omega
  go_quiet (fail)
  go_upto_region 5 with fail
  go_cut [8, 9] (fun v8 v9 wr => ∃ a b : Nat, v8 = .int .i64 a ∧ v9 = .int .i64 b ∧ a ≤ b ∧ b ≤ L.length ∧ Below w2.heap.size w2 wr)
  case first =>
    go_wp2
    all_goals go_meet
    all_goals first
      | exact ⟨n1, n1, rfl, rfl, by omega, by omega, below_right (Below.refl _ _) _⟩
      | exact ⟨n1, n2, rfl, rfl, by omega, by omega, below_right (Below.refl _ _) _⟩
      | exact ⟨n2, n1, rfl, rfl, by omega, by omega, below_right (Below.refl _ _) _⟩
  case rest =>
    obtain ⟨a, b, rfl, rfl, hab, hbl, hbw⟩ := hcut
    have hR2 := (hr2.below hbw).more hbw.size
    have hb05 := hb02.trans (hbw.mono hsz2)
    have HP := Lib.hid (parts_same HS.out hab)
    have HT := Lib.hid (twice_same HS.out b)
    have HE := Lib.hid (empty_same HS.out)
    have HW := Lib.hid (whole_same (rises_tog HS.out))
    have htm : (togE L).length ≤ 120 := Nat.le_trans (togE_length L) ht
    have hZl : ∀ l ∈ (L.take b).drop a, l.length ≤ 20 := fun l hl => HLS.out l (List.mem_of_mem_take (List.mem_of_mem_drop hl))
    have hYl : ∀ l ∈ L.take a, l.length ≤ 20 := fun l hl => HLS.out l (List.mem_of_mem_take hl)
    have hVl : ∀ l ∈ L.take b, l.length ≤ 20 := fun l hl => HLS.out l (List.mem_of_mem_take hl)
    have hXl : ∀ l ∈ L.drop b, l.length ≤ 20 := fun l hl => HLS.out l (List.mem_of_mem_drop hl)
    have hZn : ((L.take b).drop a).length = b - a := by simp; omega
    have hYn : (L.take a).length = a := by simp; omega
    have hVn : (L.take b).length = b := by simp; omega
    have hXn : (L.drop b).length = L.length - b := by simp
    have hZt : total ((L.take b).drop a) ≤ 120 := by have := total_le hZl; omega
    have HBL := Lib.hid (big_one (by omega) HLS.out)
    have HBZ := Lib.hid (big_one (by omega) hZl)
    have HBP := Lib.hid (big_mid (by omega) hYl hZt (by omega) hXl)
    have HBT := Lib.hid (big_two (by omega) HLS.out (by omega) hVl)
    have HBE := Lib.hid (big_one (Y := [] :: L) (by simp; omega) (fun l hl => (List.mem_cons.1 hl).elim (fun h => by subst h; simp) (HLS.out l)))
    have HBW := Lib.hid (big_whole htm)
    have hg0 : True := trivial
    have HG := Lib.hid hg0
    have HRL := Lib.hid hR2
    have hRY : ∀ w', Below wc.heap.size wc w' → RLs w' w'.heap.size A2 (L.take a) := fun w' hb => ((hR2.below hb).more hb.size).take a
    have HRY := Lib.hid hRY
    have hRV : ∀ w', Below wc.heap.size wc w' → RLs w' w'.heap.size A2 (L.take b) := fun w' hb => ((hR2.below hb).more hb.size).take b
    have HRV := Lib.hid hRV
    have hRA : ∀ w', Below wc.heap.size wc w' → RLs w' w'.heap.size A2 L := fun w' hb => ((hR2.below hb).more hb.size)
    have HRA := Lib.hid hRA
    have HNZ := Lib.hid hZn
    have HNY := Lib.hid hYn
    have HNV := Lib.hid hVn
    have HNX := Lib.hid hXn
    clear hZl hYl hVl hXl hZn hYn hVn hXn hg0 hRY hRV hRA hb1 hsz1 hr2 hb2 hb02 hsz2 h hl HS hn1 hn2 hl1 hl2 hbw hZt
    rcases hS2 with ⟨rfl, h0, rfl⟩ | ⟨bb, off, rfl⟩
    · obtain rfl : a = 0 := by omega
      obtain rfl : b = 0 := by omega
      have hRZ : ∀ w', Below wc.heap.size wc w' → RLs w' w'.heap.size none ((L.take 0).drop 0) := fun w' hb h0 => absurd h0 (by simp)
      have hL0 : L = [] := List.eq_nil_of_length_eq_zero h0
      have hRX : ∀ w', Below wc.heap.size wc w' → RLs w' w'.heap.size none (L.drop 0) := fun w' hb h1 => absurd h1 (by rw [hL0]; decide)
      have hNX : (L.drop 0).length = 0 := by rw [hL0]; rfl
      have HNX := Lib.hid hNX
      have hNZ : ((L.take 0).drop 0).length = 0 := by simp
      have HNZ := Lib.hid hNZ
      have HNL := Lib.hid h0
      clear hNX hNZ hL0
      have HRZ := Lib.hid hRZ
      have HRX := Lib.hid hRX
      clear hRZ hRX hR2
      generalize (L.take 0).drop 0 = Z at *
      generalize L.take 0 = Y at *
      generalize L.drop 0 = X at *
      go_upto_region 8 with (first
        | (go_at_call 11; first
            | (have _q := HG; refine (lists_big L _ _ _ _ HBL.out (by first | rfl | exact HNL.out) rfl HRL.out).mono ?_; rintro e w3 ⟨A3, c3, rfl, hc3, hr3, hb3⟩; clear _q HG)
            | (refine (lists_big Z _ _ _ _ HBZ.out HNZ.out rfl (HRZ.out _ hb3)).mono ?_; rintro e w4 ⟨A4, c4, rfl, hc4, hr4, hb4⟩; have hb34 := hb3.size)))
      have hbc4 := hb3.trans (hb4.mono hb3.size)
      have hr34 := hr3.later hb4
      have HRY4 : ∀ w', Below w4.heap.size w4 w' → RLs w' w'.heap.size (none) Y := fun w' hb => HRY.out w' (keepL hbc4 hb)
      have HRX4 : ∀ w', Below w4.heap.size w4 w' → RLs w' w'.heap.size (none) X := fun w' hb => HRX.out w' (keepL hbc4 hb)
      have HRV4 : ∀ w', Below w4.heap.size w4 w' → RLs w' w'.heap.size (none) Y := fun w' hb => HRV.out w' (keepL hbc4 hb)
      have HRA4 : ∀ w', Below w4.heap.size w4 w' → RLs w' w'.heap.size (none) L := fun w' hb => HRA.out w' (keepL hbc4 hb)
      have HY4 := Lib.hid HRY4
      have HX4 := Lib.hid HRX4
      have HV4 := Lib.hid HRV4
      have HA4 := Lib.hid HRA4
      clear HRY4 HRX4 HRV4 HRA4 HRY HRX HRV HRA HRZ
      go_cut [12] (fun v wr => OLs wr w4.heap.size v ((Y ++ [togE Z]) ++ X) ∧ Below w4.heap.size w4 wr)
      case first =>
        have hg1 : True := trivial
        have HG := Lib.hid hg1
        clear hg1
        go_region_held3 (fun w' => Below w4.heap.size w4 w')
          (first | exact hcum | exact (Below.refl _ _).drew | exact hcum.alloc hcum.size _ | exact (Below.refl _ _).drew.alloc (by simp) _ | exact ((Below.refl _ _).alloc (by simp) _).drew | exact (((Below.refl _ _).alloc (by simp) _).alloc (by simp) _).drew)
          (first
            | (have _q := hown7; refine step_append_rows (by rfl) (.tmp 51) (.tmp 54) (by rfl) w4.heap.size v7 (Y ++ [togE Z]) X (by rfl) (by with_reducible exact hown7) _ _ _ (by rfl) HNX.out.symm (HX4.out _ hcum) (by have := HNX.out; have := HNY.out; simp; omega) (by have := hcum.size; omega) ?_; intro v8 w8 hown8 hb8; have hcum := hcum.trans hb8; clear hb8 hown7)
            | (have _q := hone; refine step_append_rows (by rfl) (.tmp 48) (.tmp 50) (by rfl) w4.heap.size v6 Y [togE Z] (by rfl) (by with_reducible exact hown) _ _ _ (by rfl) rfl hone (by have := HNY.out; simp; omega) (by have := hcum.size; omega) ?_; intro v7 w7 hown7 hb7; have hcum := hcum.trans hb7; clear hb7 hone hown)
            | (have _q := hown; refine step_append_rows (by rfl) (.tmp 48) (.tmp 50) (by rfl) w4.heap.size v6 Y [togE Z] (by rfl) (by with_reducible exact hown.up _) _ _ _ (by rfl) rfl (RLs.one w6 rfl hc4 (hr4.later hcum)) (by have := HNY.out; simp; omega) (by have := hcum.size; simp; omega) ?_; intro v7 w7 hown7 hb7; have hcum := (hcum.alloc hcum.size _).trans hb7; clear hb7 hown)
            | (have _q := HG; refine step_append_rows (by rfl) (.tmp 44) (.tmp 47) (by rfl) w4.heap.size (.slice (some ⟨w4.heap.size, 0, none⟩) 0 0) [] Y (by rfl) (by with_reducible exact (OLs.fresh w4 w4.heap.size (Nat.le_refl _)).below (Below.refl _ _).drew) _ _ _ (by rfl) HNY.out.symm (HY4.out _ (by assumption)) (by have := HNY.out; simp; omega) (by simp) ?_; intro v6 w6 hown hb6; have hcum := (((Below.refl w4.heap.size w4).alloc (Nat.le_refl _) (.cells #[] 26)).drew).trans hb6; rw [List.nil_append] at hown; clear hb6 _q HG)
            | (have _q := HG; refine step_append_beside (by rfl) (.tmp 44) (.tmp 47) (by rfl) w4.heap.size (.slice (some ⟨w4.heap.size, 0, none⟩) 0 0) [] Y (by rfl) (by with_reducible exact ((OLs.fresh w4 w4.heap.size (Nat.le_refl _)).up _).below (Below.refl _ _).drew) _ _ _ (by rfl) HNY.out.symm (HY4.out _ (by assumption)) (by have := HNY.out; simp; omega) (by simp; omega) (some ⟨w4.heap.size + 1, 0, none⟩) [togE Z] (one_after rfl hc4 hr4) (apart (by omega)) ?_; intro v6 w6 hown hb6 hone; have hcum := ((((Below.refl w4.heap.size w4).alloc (Nat.le_refl _) (.cells #[] 26)).alloc (by simp) _).drew).trans hb6; rw [List.nil_append] at hown; clear hb6 _q HG)
            | (have _q := HG; refine step_append_beside (by rfl) (.tmp 44) (.tmp 47) (by rfl) w4.heap.size (.slice (some ⟨w4.heap.size + 1, 0, none⟩) 0 0) [] Y (by rfl) fresh_after _ _ _ (by rfl) HNY.out.symm (HY4.out _ (by assumption)) (by have := HNY.out; simp; omega) (by simp; omega) (some ⟨w4.heap.size, 0, none⟩) [togE Z] (one_before rfl hc4 hr4) (apart (by omega)) ?_; intro v6 w6 hown hb6 hone; have hcum := ((((Below.refl w4.heap.size w4).alloc (Nat.le_refl _) _).alloc (by simp) (.cells #[] 26)).drew).trans hb6; rw [List.nil_append] at hown; clear hb6 _q HG)
            )
        all_goals (go_wp2; go_meet)
        all_goals exact ⟨hown8, hcum⟩
      case rest =>
        obtain ⟨hown8, hcum⟩ := hcut
        obtain ⟨A8, c8, rfl, hc8, hr8, -⟩ := hown8.form
        have h40 : (0 : Int) ≤ ((0 : Nat) : Int) := by omega
        go_upto_region 9 with fail
        have hg1 : True := trivial
        have HG := Lib.hid hg1
        clear hg1
        have hs8 := hcum.size
        have hRA8 : ∀ w', Below wc.heap.size wc w' → RLs w' w'.heap.size (none) L := fun w' hb => HA4.out w' (keepL hcum hb)
        have hRV8 : ∀ w', Below wc.heap.size wc w' → RLs w' w'.heap.size (none) Y := fun w' hb => HV4.out w' (keepL hcum hb)
        have HA8 := Lib.hid hRA8
        have HV8 := Lib.hid hRV8
        have hcum0 := hcum
        clear hRA8 hRV8 hcum hown8
        go_region_held3 (fun w' => Below wc.heap.size wc w')
          (first | exact hcum | exact (Below.refl _ _).drew | exact (Below.refl _ _).drew.alloc (by simp) _ | exact ((Below.refl _ _).alloc (by simp) _).drew)
          (first
            | (have _q := hown9; refine step_append_rows (by rfl) (.tmp 58) (.tmp 61) (by rfl) wc.heap.size v9 L Y (by rfl) (by with_reducible exact hown9) _ _ _ (by rfl) HNV.out.symm (HV8.out _ hcum) (by have := HNV.out; omega) (by have := hcum.size; omega) ?_; intro v10 w10 hown10 hb10; have hcum := hcum.trans hb10; clear hb10 hown9)
            | (have _q := HG; refine step_append_rows (by rfl) (.tmp 56) (.tmp 57) (by rfl) wc.heap.size (.slice (some ⟨wc.heap.size, 0, none⟩) 0 0) [] L (by rfl) (by with_reducible exact (OLs.fresh wc wc.heap.size (Nat.le_refl _)).below (Below.refl _ _).drew) _ _ _ (by rfl) (by first | rfl | exact HNL.out.symm) (HA8.out _ (by assumption)) (by simp; omega) (by simp) ?_; intro v9 w9 hown9 hb9; have hcum := (((Below.refl wc.heap.size wc).alloc (Nat.le_refl _) (.cells #[] 26)).drew).trans hb9; rw [List.nil_append] at hown9; clear hb9 _q HG))
        obtain ⟨A10, c10, rfl, hc10, hr10, -⟩ := hown10.form
        have hs10 := hcum.size
        go_upto_region 11 with (first
          | (at_builtin; refine wpList_append_rows rfl (.tmp 63) (.tmp 64) rfl w10.heap.size (.slice (some ⟨w10.heap.size, 0, none⟩) 1 1) [[]] L rfl (OLs.one_nil w10 w10.heap.size (Nat.le_refl _)) _ _ _ rfl (by first | rfl | exact HNL.out.symm) (HA8.out _ (hcum.alloc hcum.size _)) (by simp; omega) (by simp) ?_; intro v12 w12 hown12 hb12; have hk12 := ((Below.refl w10.heap.size w10).alloc (Nat.le_refl _) (.cells #[.slice none 0 0] 26)).trans hb12; clear hb12))
        obtain ⟨A12, c12, rfl, hc12, hr12, -⟩ := hown12.form
        clear hown12
        have hK8 : Below wc.heap.size wc w12 := hcum.trans (hk12.mono hs10)
        have hR8 : RLs w12 w12.heap.size A8 ((Y ++ [togE Z]) ++ X) := (hr8.below hK8).more hK8.size
        have hR10 : RLs w12 w12.heap.size A10 (L ++ Y) := (hr10.below hk12).more hk12.size
        have hRL : RLs w12 w12.heap.size (none) L := HA8.out w12 hK8
        have hM : REs w12 w12.heap.size A3 (togE L) := (hr34.later hcum0).later hK8
        have hB12 : Below w.heap.size w w12 := keepL hb05 ((keepL hbc4 hcum0).trans (hK8.mono (by have := (keepL hbc4 hcum0).size; omega)))
        have hK : Below w12.heap.size w12 w12 := Below.refl _ _
        have hlm : (liveE (togE L)).length ≤ 120 := Nat.le_trans (List.length_filter_le _ _) htm
        have HF8 := Lib.hid hR8
        have HF10 := Lib.hid hR10
        have HF12 := Lib.hid hr12
        have HFL := Lib.hid hRL
        have HM := Lib.hid hM
        have hg1 : True := trivial
        have G1 := Lib.hid hg1
        have G2 := Lib.hid hg1
        have G3 := Lib.hid hg1
        have G5 := Lib.hid hg1
        clear h0 hg1 hR8 hR10 hr12 hRL hM hr8 hr10 hr34 hcum hcum0 hK8 hk12
        go_wp2_with (first
          | (go_at_call 11; first
              | (have _q := G1; refine (lists_big _ _ _ _ (togE L) HBP.out (by first | (simp; done) | (have := HNL.out; have := HNX.out; have := HNY.out; have := HNZ.out; simp only [List.length_append, List.length_cons, List.length_nil]; omega)) HP.out ((HF8.out.below hK).more hK.size)).mono ?_; rintro e wr ⟨Ar, cr, rfl, hcr, hrr, hbr⟩; have hK := keepL hK hbr; clear hbr _q G1)
              | (have _q := G2; refine (lists_big _ _ _ _ (togE L) HBT.out (by first | (simp; done) | (have := HNL.out; have := HNX.out; have := HNY.out; have := HNZ.out; simp only [List.length_append, List.length_cons, List.length_nil]; omega)) HT.out ((HF10.out.below hK).more hK.size)).mono ?_; rintro e wr ⟨Ar, cr, rfl, hcr, hrr, hbr⟩; have hK := keepL hK hbr; clear hbr _q G2)
              | (have _q := G3; refine (lists_big ([] :: L) _ _ _ (togE L) HBE.out (by first | (simp; done) | (have := HNL.out; have := HNX.out; have := HNY.out; have := HNZ.out; simp only [List.length_append, List.length_cons, List.length_nil]; omega)) HE.out ((HF12.out.below hK).more hK.size)).mono ?_; rintro e wr ⟨Ar, cr, rfl, hcr, hrr, hbr⟩; have hK := keepL hK hbr; clear hbr _q G3)
              | (refine (lists_big [togE L] _ _ _ (togE L) HBW.out rfl HW.out (RLs.one _ rfl hc3 (HM.out.later hK))).mono ?_; rintro e wr ⟨Ar, cr, rfl, hcr, hrr, hbr⟩; have hK := keepL (hK.alloc hK.size _) hbr; clear hbr))
          | (go_at_call 14; first
              | (have _q := hrb2; refine (same_lit _ (hrb1.later hbb2) hrb2 rfl (by omega)).mono ?_; rintro e ws ⟨rfl, hbs⟩; have hK := keepL hK hbs; clear hbs)
              | (refine (same_lit (togE L) hrr (HM.out.later hK) rfl (by omega)).mono ?_; rintro e ws ⟨rfl, hbs⟩; have hK := keepL hK hbs; clear hbs hrr))
          | (go_at_call 15; first
              | (have _q := G5; refine (bottom_big _ _ _ _ (liveE (togE L)) HBP.out (by first | (simp; done) | (have := HNL.out; have := HNX.out; have := HNY.out; have := HNZ.out; simp only [List.length_append, List.length_cons, List.length_nil]; omega)) (by rw [HP.out]) ((HF8.out.below hK).more hK.size)).mono ?_; rintro e wb ⟨Ab, cb, rfl, hcb, hrb1, hbb⟩; have hK := keepL hK hbb; clear hbb _q G5)
              | (refine (bottom_big L _ _ _ (liveE (togE L)) HBL.out (by first | rfl | exact HNL.out) rfl ((HFL.out.below hK).more hK.size)).mono ?_; rintro e wb2 ⟨Ab2, cb2, rfl, hcb2, hrb2, hbb2⟩; have hK := keepL hK hbb2)))
        go_ret
        exact ⟨by simp, keepL hB12 hK⟩
    · have e1 : (0 : Int) ≤ (a : Int) := by omega
      have e2 : (a : Int) ≤ (b : Int) := by omega
      have e3 : (b : Int) ≤ (L.length : Int) := by omega
      have e4 : (L.length : Int) ≤ (c2 : Int) := by omega
      have e5 : (a : Int) ≤ (c2 : Int) := by omega
      have e6 : (b : Int) ≤ (c2 : Int) := by omega
      by_cases hca : c2 = a
      · obtain rfl : a = b := by omega
        obtain rfl : a = L.length := by omega
        subst hca
        have hRZ : ∀ w', Below wc.heap.size wc w' → RLs w' w'.heap.size (some ⟨bb, off, none⟩) ((L.take L.length).drop L.length) := fun w' hb h0 => absurd h0 (by simp)
        have hRX : ∀ w', Below wc.heap.size wc w' → RLs w' w'.heap.size (some ⟨bb, off, none⟩) (L.drop L.length) := fun w' hb h0 => absurd h0 (by simp)
        have hNX : (L.drop L.length).length = 0 := by simp
        have HNX := Lib.hid hNX
        have hNZ : ((L.take L.length).drop L.length).length = 0 := by simp
        have HNZ := Lib.hid hNZ
        have hNL : L.length = L.length := rfl
        have HNL := Lib.hid hNL
        clear hNL hNX hNZ
        have HRZ := Lib.hid hRZ
        have HRX := Lib.hid hRX
        clear hRZ hRX hR2
        generalize (L.take L.length).drop L.length = Z at *
        generalize L.take L.length = Y at *
        generalize L.drop L.length = X at *
        go_upto_region 8 with (first
          | (go_at_call 11; first
              | (have _q := HG; refine (lists_big L _ _ _ _ HBL.out (by first | rfl | exact HNL.out) rfl HRL.out).mono ?_; rintro e w3 ⟨A3, c3, rfl, hc3, hr3, hb3⟩; clear _q HG)
              | (refine (lists_big Z _ _ _ _ HBZ.out HNZ.out rfl (HRZ.out _ hb3)).mono ?_; rintro e w4 ⟨A4, c4, rfl, hc4, hr4, hb4⟩; have hb34 := hb3.size)))
        have hbc4 := hb3.trans (hb4.mono hb3.size)
        have hr34 := hr3.later hb4
        have HRY4 : ∀ w', Below w4.heap.size w4 w' → RLs w' w'.heap.size (some ⟨bb, off, none⟩) Y := fun w' hb => HRY.out w' (keepL hbc4 hb)
        have HRX4 : ∀ w', Below w4.heap.size w4 w' → RLs w' w'.heap.size (some ⟨bb, off, none⟩) X := fun w' hb => HRX.out w' (keepL hbc4 hb)
        have HRV4 : ∀ w', Below w4.heap.size w4 w' → RLs w' w'.heap.size (some ⟨bb, off, none⟩) Y := fun w' hb => HRV.out w' (keepL hbc4 hb)
        have HRA4 : ∀ w', Below w4.heap.size w4 w' → RLs w' w'.heap.size (some ⟨bb, off, none⟩) L := fun w' hb => HRA.out w' (keepL hbc4 hb)
        have HY4 := Lib.hid HRY4
        have HX4 := Lib.hid HRX4
        have HV4 := Lib.hid HRV4
        have HA4 := Lib.hid HRA4
        clear HRY4 HRX4 HRV4 HRA4 HRY HRX HRV HRA HRZ
        go_cut [12] (fun v wr => OLs wr w4.heap.size v ((Y ++ [togE Z]) ++ X) ∧ Below w4.heap.size w4 wr)
        case first =>
          have hg1 : True := trivial
          have HG := Lib.hid hg1
          clear hg1
          go_region_held3 (fun w' => Below w4.heap.size w4 w')
            (first | exact hcum | exact (Below.refl _ _).drew | exact hcum.alloc hcum.size _ | exact (Below.refl _ _).drew.alloc (by simp) _ | exact ((Below.refl _ _).alloc (by simp) _).drew | exact (((Below.refl _ _).alloc (by simp) _).alloc (by simp) _).drew)
            (first
              | (have _q := hown7; refine step_append_rows (by rfl) (.tmp 51) (.tmp 54) (by rfl) w4.heap.size v7 (Y ++ [togE Z]) X (by rfl) (by with_reducible exact hown7) _ _ _ (by rfl) HNX.out.symm (HX4.out _ hcum) (by have := HNX.out; have := HNY.out; simp; omega) (by have := hcum.size; omega) ?_; intro v8 w8 hown8 hb8; have hcum := hcum.trans hb8; clear hb8 hown7)
              | (have _q := hone; refine step_append_rows (by rfl) (.tmp 48) (.tmp 50) (by rfl) w4.heap.size v6 Y [togE Z] (by rfl) (by with_reducible exact hown) _ _ _ (by rfl) rfl hone (by have := HNY.out; simp; omega) (by have := hcum.size; omega) ?_; intro v7 w7 hown7 hb7; have hcum := hcum.trans hb7; clear hb7 hone hown)
              | (have _q := hown; refine step_append_rows (by rfl) (.tmp 48) (.tmp 50) (by rfl) w4.heap.size v6 Y [togE Z] (by rfl) (by with_reducible exact hown.up _) _ _ _ (by rfl) rfl (RLs.one w6 rfl hc4 (hr4.later hcum)) (by have := HNY.out; simp; omega) (by have := hcum.size; simp; omega) ?_; intro v7 w7 hown7 hb7; have hcum := (hcum.alloc hcum.size _).trans hb7; clear hb7 hown)
              | (have _q := HG; refine step_append_rows (by rfl) (.tmp 44) (.tmp 47) (by rfl) w4.heap.size (.slice (some ⟨w4.heap.size, 0, none⟩) 0 0) [] Y (by rfl) (by with_reducible exact (OLs.fresh w4 w4.heap.size (Nat.le_refl _)).below (Below.refl _ _).drew) _ _ _ (by rfl) HNY.out.symm (HY4.out _ (by assumption)) (by have := HNY.out; simp; omega) (by simp) ?_; intro v6 w6 hown hb6; have hcum := (((Below.refl w4.heap.size w4).alloc (Nat.le_refl _) (.cells #[] 26)).drew).trans hb6; rw [List.nil_append] at hown; clear hb6 _q HG)
              | (have _q := HG; refine step_append_beside (by rfl) (.tmp 44) (.tmp 47) (by rfl) w4.heap.size (.slice (some ⟨w4.heap.size, 0, none⟩) 0 0) [] Y (by rfl) (by with_reducible exact ((OLs.fresh w4 w4.heap.size (Nat.le_refl _)).up _).below (Below.refl _ _).drew) _ _ _ (by rfl) HNY.out.symm (HY4.out _ (by assumption)) (by have := HNY.out; simp; omega) (by simp; omega) (some ⟨w4.heap.size + 1, 0, none⟩) [togE Z] (one_after rfl hc4 hr4) (apart (by omega)) ?_; intro v6 w6 hown hb6 hone; have hcum := ((((Below.refl w4.heap.size w4).alloc (Nat.le_refl _) (.cells #[] 26)).alloc (by simp) _).drew).trans hb6; rw [List.nil_append] at hown; clear hb6 _q HG)
              | (have _q := HG; refine step_append_beside (by rfl) (.tmp 44) (.tmp 47) (by rfl) w4.heap.size (.slice (some ⟨w4.heap.size + 1, 0, none⟩) 0 0) [] Y (by rfl) fresh_after _ _ _ (by rfl) HNY.out.symm (HY4.out _ (by assumption)) (by have := HNY.out; simp; omega) (by simp; omega) (some ⟨w4.heap.size, 0, none⟩) [togE Z] (one_before rfl hc4 hr4) (apart (by omega)) ?_; intro v6 w6 hown hb6 hone; have hcum := ((((Below.refl w4.heap.size w4).alloc (Nat.le_refl _) _).alloc (by simp) (.cells #[] 26)).drew).trans hb6; rw [List.nil_append] at hown; clear hb6 _q HG)
              )
          all_goals (go_wp2; go_meet)
          all_goals exact ⟨hown8, hcum⟩
        case rest =>
          obtain ⟨hown8, hcum⟩ := hcut
          obtain ⟨A8, c8, rfl, hc8, hr8, -⟩ := hown8.form
          have h40 : (0 : Int) ≤ ((L.length : Nat) : Int) := by omega
          go_upto_region 9 with fail
          have hg1 : True := trivial
          have HG := Lib.hid hg1
          clear hg1
          have hs8 := hcum.size
          have hRA8 : ∀ w', Below wc.heap.size wc w' → RLs w' w'.heap.size (some ⟨bb, off, none⟩) L := fun w' hb => HA4.out w' (keepL hcum hb)
          have hRV8 : ∀ w', Below wc.heap.size wc w' → RLs w' w'.heap.size (some ⟨bb, off, none⟩) Y := fun w' hb => HV4.out w' (keepL hcum hb)
          have HA8 := Lib.hid hRA8
          have HV8 := Lib.hid hRV8
          have hcum0 := hcum
          clear hRA8 hRV8 hcum hown8
          go_region_held3 (fun w' => Below wc.heap.size wc w')
            (first | exact hcum | exact (Below.refl _ _).drew | exact (Below.refl _ _).drew.alloc (by simp) _ | exact ((Below.refl _ _).alloc (by simp) _).drew)
            (first
              | (have _q := hown9; refine step_append_rows (by rfl) (.tmp 58) (.tmp 61) (by rfl) wc.heap.size v9 L Y (by rfl) (by with_reducible exact hown9) _ _ _ (by rfl) HNV.out.symm (HV8.out _ hcum) (by have := HNV.out; omega) (by have := hcum.size; omega) ?_; intro v10 w10 hown10 hb10; have hcum := hcum.trans hb10; clear hb10 hown9)
              | (have _q := HG; refine step_append_rows (by rfl) (.tmp 56) (.tmp 57) (by rfl) wc.heap.size (.slice (some ⟨wc.heap.size, 0, none⟩) 0 0) [] L (by rfl) (by with_reducible exact (OLs.fresh wc wc.heap.size (Nat.le_refl _)).below (Below.refl _ _).drew) _ _ _ (by rfl) (by first | rfl | exact HNL.out.symm) (HA8.out _ (by assumption)) (by simp; omega) (by simp) ?_; intro v9 w9 hown9 hb9; have hcum := (((Below.refl wc.heap.size wc).alloc (Nat.le_refl _) (.cells #[] 26)).drew).trans hb9; rw [List.nil_append] at hown9; clear hb9 _q HG))
          obtain ⟨A10, c10, rfl, hc10, hr10, -⟩ := hown10.form
          have hs10 := hcum.size
          go_upto_region 11 with (first
            | (at_builtin; refine wpList_append_rows rfl (.tmp 63) (.tmp 64) rfl w10.heap.size (.slice (some ⟨w10.heap.size, 0, none⟩) 1 1) [[]] L rfl (OLs.one_nil w10 w10.heap.size (Nat.le_refl _)) _ _ _ rfl (by first | rfl | exact HNL.out.symm) (HA8.out _ (hcum.alloc hcum.size _)) (by simp; omega) (by simp) ?_; intro v12 w12 hown12 hb12; have hk12 := ((Below.refl w10.heap.size w10).alloc (Nat.le_refl _) (.cells #[.slice none 0 0] 26)).trans hb12; clear hb12))
          obtain ⟨A12, c12, rfl, hc12, hr12, -⟩ := hown12.form
          clear hown12
          have hK8 : Below wc.heap.size wc w12 := hcum.trans (hk12.mono hs10)
          have hR8 : RLs w12 w12.heap.size A8 ((Y ++ [togE Z]) ++ X) := (hr8.below hK8).more hK8.size
          have hR10 : RLs w12 w12.heap.size A10 (L ++ Y) := (hr10.below hk12).more hk12.size
          have hRL : RLs w12 w12.heap.size (some ⟨bb, off, none⟩) L := HA8.out w12 hK8
          have hM : REs w12 w12.heap.size A3 (togE L) := (hr34.later hcum0).later hK8
          have hB12 : Below w.heap.size w w12 := keepL hb05 ((keepL hbc4 hcum0).trans (hK8.mono (by have := (keepL hbc4 hcum0).size; omega)))
          have hK : Below w12.heap.size w12 w12 := Below.refl _ _
          have hlm : (liveE (togE L)).length ≤ 120 := Nat.le_trans (List.length_filter_le _ _) htm
          have HF8 := Lib.hid hR8
          have HF10 := Lib.hid hR10
          have HF12 := Lib.hid hr12
          have HFL := Lib.hid hRL
          have HM := Lib.hid hM
          have hg1 : True := trivial
          have G1 := Lib.hid hg1
          have G2 := Lib.hid hg1
          have G3 := Lib.hid hg1
          have G5 := Lib.hid hg1
          clear hg1 hR8 hR10 hr12 hRL hM hr8 hr10 hr34 hcum hcum0 hK8 hk12
          go_wp2_with (first
            | (go_at_call 11; first
                | (have _q := G1; refine (lists_big _ _ _ _ (togE L) HBP.out (by first | (simp; done) | (simp; omega)) HP.out ((HF8.out.below hK).more hK.size)).mono ?_; rintro e wr ⟨Ar, cr, rfl, hcr, hrr, hbr⟩; have hK := keepL hK hbr; clear hbr _q G1)
                | (have _q := G2; refine (lists_big _ _ _ _ (togE L) HBT.out (by first | (simp; done) | (simp; omega)) HT.out ((HF10.out.below hK).more hK.size)).mono ?_; rintro e wr ⟨Ar, cr, rfl, hcr, hrr, hbr⟩; have hK := keepL hK hbr; clear hbr _q G2)
                | (have _q := G3; refine (lists_big ([] :: L) _ _ _ (togE L) HBE.out (by first | (simp; done) | (simp; omega)) HE.out ((HF12.out.below hK).more hK.size)).mono ?_; rintro e wr ⟨Ar, cr, rfl, hcr, hrr, hbr⟩; have hK := keepL hK hbr; clear hbr _q G3)
                | (refine (lists_big [togE L] _ _ _ (togE L) HBW.out rfl HW.out (RLs.one _ rfl hc3 (HM.out.later hK))).mono ?_; rintro e wr ⟨Ar, cr, rfl, hcr, hrr, hbr⟩; have hK := keepL (hK.alloc hK.size _) hbr; clear hbr))
            | (go_at_call 14; first
                | (have _q := hrb2; refine (same_lit _ (hrb1.later hbb2) hrb2 rfl (by omega)).mono ?_; rintro e ws ⟨rfl, hbs⟩; have hK := keepL hK hbs; clear hbs)
                | (refine (same_lit (togE L) hrr (HM.out.later hK) rfl (by omega)).mono ?_; rintro e ws ⟨rfl, hbs⟩; have hK := keepL hK hbs; clear hbs hrr))
            | (go_at_call 15; first
                | (have _q := G5; refine (bottom_big _ _ _ _ (liveE (togE L)) HBP.out (by first | (simp; done) | (simp; omega)) (by rw [HP.out]) ((HF8.out.below hK).more hK.size)).mono ?_; rintro e wb ⟨Ab, cb, rfl, hcb, hrb1, hbb⟩; have hK := keepL hK hbb; clear hbb _q G5)
                | (refine (bottom_big L _ _ _ (liveE (togE L)) HBL.out (by first | rfl | exact HNL.out) rfl ((HFL.out.below hK).more hK.size)).mono ?_; rintro e wb2 ⟨Ab2, cb2, rfl, hcb2, hrb2, hbb2⟩; have hK := keepL hK hbb2)))
          go_ret
          exact ⟨by simp, keepL hB12 hK⟩
      · by_cases hcb : c2 = b
        · obtain rfl : b = L.length := by omega
          subst hcb
          have hRZ : ∀ w', Below wc.heap.size wc w' → RLs w' w'.heap.size (some ⟨bb, off + a, none⟩) ((L.take L.length).drop a) := fun w' hb => ((((hR2.below hb).more hb.size).take L.length)).drop a
          have hRX : ∀ w', Below wc.heap.size wc w' → RLs w' w'.heap.size (some ⟨bb, off, none⟩) (L.drop L.length) := fun w' hb h0 => absurd h0 (by simp)
          have hNX : (L.drop L.length).length = 0 := by simp
          have HNX := Lib.hid hNX
          have hNL : L.length = L.length := rfl
          have HNL := Lib.hid hNL
          clear hNL hNX
          have HRZ := Lib.hid hRZ
          have HRX := Lib.hid hRX
          clear hRZ hRX hR2
          generalize (L.take L.length).drop a = Z at *
          generalize L.take a = Y at *
          generalize L.take L.length = V at *
          generalize L.drop L.length = X at *
          go_upto_region 8 with (first
            | (go_at_call 11; first
                | (have _q := HG; refine (lists_big L _ _ _ _ HBL.out (by first | rfl | exact HNL.out) rfl HRL.out).mono ?_; rintro e w3 ⟨A3, c3, rfl, hc3, hr3, hb3⟩; clear _q HG)
                | (refine (lists_big Z _ _ _ _ HBZ.out HNZ.out rfl (HRZ.out _ hb3)).mono ?_; rintro e w4 ⟨A4, c4, rfl, hc4, hr4, hb4⟩; have hb34 := hb3.size)))
          have hbc4 := hb3.trans (hb4.mono hb3.size)
          have hr34 := hr3.later hb4
          have HRY4 : ∀ w', Below w4.heap.size w4 w' → RLs w' w'.heap.size (some ⟨bb, off, none⟩) Y := fun w' hb => HRY.out w' (keepL hbc4 hb)
          have HRX4 : ∀ w', Below w4.heap.size w4 w' → RLs w' w'.heap.size (some ⟨bb, off, none⟩) X := fun w' hb => HRX.out w' (keepL hbc4 hb)
          have HRV4 : ∀ w', Below w4.heap.size w4 w' → RLs w' w'.heap.size (some ⟨bb, off, none⟩) V := fun w' hb => HRV.out w' (keepL hbc4 hb)
          have HRA4 : ∀ w', Below w4.heap.size w4 w' → RLs w' w'.heap.size (some ⟨bb, off, none⟩) L := fun w' hb => HRA.out w' (keepL hbc4 hb)
          have HY4 := Lib.hid HRY4
          have HX4 := Lib.hid HRX4
          have HV4 := Lib.hid HRV4
          have HA4 := Lib.hid HRA4
          clear HRY4 HRX4 HRV4 HRA4 HRY HRX HRV HRA HRZ
          go_cut [12] (fun v wr => OLs wr w4.heap.size v ((Y ++ [togE Z]) ++ X) ∧ Below w4.heap.size w4 wr)
          case first =>
            have hg1 : True := trivial
            have HG := Lib.hid hg1
            clear hg1
            go_region_held3 (fun w' => Below w4.heap.size w4 w')
              (first | exact hcum | exact (Below.refl _ _).drew | exact hcum.alloc hcum.size _ | exact (Below.refl _ _).drew.alloc (by simp) _ | exact ((Below.refl _ _).alloc (by simp) _).drew | exact (((Below.refl _ _).alloc (by simp) _).alloc (by simp) _).drew)
              (first
                | (have _q := hown7; refine step_append_rows (by rfl) (.tmp 51) (.tmp 54) (by rfl) w4.heap.size v7 (Y ++ [togE Z]) X (by rfl) (by with_reducible exact hown7) _ _ _ (by rfl) HNX.out.symm (HX4.out _ hcum) (by have := HNX.out; have := HNY.out; simp; omega) (by have := hcum.size; omega) ?_; intro v8 w8 hown8 hb8; have hcum := hcum.trans hb8; clear hb8 hown7)
                | (have _q := hone; refine step_append_rows (by rfl) (.tmp 48) (.tmp 50) (by rfl) w4.heap.size v6 Y [togE Z] (by rfl) (by with_reducible exact hown) _ _ _ (by rfl) rfl hone (by have := HNY.out; simp; omega) (by have := hcum.size; omega) ?_; intro v7 w7 hown7 hb7; have hcum := hcum.trans hb7; clear hb7 hone hown)
                | (have _q := hown; refine step_append_rows (by rfl) (.tmp 48) (.tmp 50) (by rfl) w4.heap.size v6 Y [togE Z] (by rfl) (by with_reducible exact hown.up _) _ _ _ (by rfl) rfl (RLs.one w6 rfl hc4 (hr4.later hcum)) (by have := HNY.out; simp; omega) (by have := hcum.size; simp; omega) ?_; intro v7 w7 hown7 hb7; have hcum := (hcum.alloc hcum.size _).trans hb7; clear hb7 hown)
                | (have _q := HG; refine step_append_rows (by rfl) (.tmp 44) (.tmp 47) (by rfl) w4.heap.size (.slice (some ⟨w4.heap.size, 0, none⟩) 0 0) [] Y (by rfl) (by with_reducible exact (OLs.fresh w4 w4.heap.size (Nat.le_refl _)).below (Below.refl _ _).drew) _ _ _ (by rfl) HNY.out.symm (HY4.out _ (by assumption)) (by have := HNY.out; simp; omega) (by simp) ?_; intro v6 w6 hown hb6; have hcum := (((Below.refl w4.heap.size w4).alloc (Nat.le_refl _) (.cells #[] 26)).drew).trans hb6; rw [List.nil_append] at hown; clear hb6 _q HG)
                | (have _q := HG; refine step_append_beside (by rfl) (.tmp 44) (.tmp 47) (by rfl) w4.heap.size (.slice (some ⟨w4.heap.size, 0, none⟩) 0 0) [] Y (by rfl) (by with_reducible exact ((OLs.fresh w4 w4.heap.size (Nat.le_refl _)).up _).below (Below.refl _ _).drew) _ _ _ (by rfl) HNY.out.symm (HY4.out _ (by assumption)) (by have := HNY.out; simp; omega) (by simp; omega) (some ⟨w4.heap.size + 1, 0, none⟩) [togE Z] (one_after rfl hc4 hr4) (apart (by omega)) ?_; intro v6 w6 hown hb6 hone; have hcum := ((((Below.refl w4.heap.size w4).alloc (Nat.le_refl _) (.cells #[] 26)).alloc (by simp) _).drew).trans hb6; rw [List.nil_append] at hown; clear hb6 _q HG)
                | (have _q := HG; refine step_append_beside (by rfl) (.tmp 44) (.tmp 47) (by rfl) w4.heap.size (.slice (some ⟨w4.heap.size + 1, 0, none⟩) 0 0) [] Y (by rfl) fresh_after _ _ _ (by rfl) HNY.out.symm (HY4.out _ (by assumption)) (by have := HNY.out; simp; omega) (by simp; omega) (some ⟨w4.heap.size, 0, none⟩) [togE Z] (one_before rfl hc4 hr4) (apart (by omega)) ?_; intro v6 w6 hown hb6 hone; have hcum := ((((Below.refl w4.heap.size w4).alloc (Nat.le_refl _) _).alloc (by simp) (.cells #[] 26)).drew).trans hb6; rw [List.nil_append] at hown; clear hb6 _q HG)
                )
            all_goals (go_wp2; go_meet)
            all_goals exact ⟨hown8, hcum⟩
          case rest =>
            obtain ⟨hown8, hcum⟩ := hcut
            obtain ⟨A8, c8, rfl, hc8, hr8, -⟩ := hown8.form
            have h40 : (0 : Int) ≤ ((L.length : Nat) : Int) := by omega
            go_upto_region 9 with fail
            have hg1 : True := trivial
            have HG := Lib.hid hg1
            clear hg1
            have hs8 := hcum.size
            have hRA8 : ∀ w', Below wc.heap.size wc w' → RLs w' w'.heap.size (some ⟨bb, off, none⟩) L := fun w' hb => HA4.out w' (keepL hcum hb)
            have hRV8 : ∀ w', Below wc.heap.size wc w' → RLs w' w'.heap.size (some ⟨bb, off, none⟩) V := fun w' hb => HV4.out w' (keepL hcum hb)
            have HA8 := Lib.hid hRA8
            have HV8 := Lib.hid hRV8
            have hcum0 := hcum
            clear hRA8 hRV8 hcum hown8
            go_region_held3 (fun w' => Below wc.heap.size wc w')
              (first | exact hcum | exact (Below.refl _ _).drew | exact (Below.refl _ _).drew.alloc (by simp) _ | exact ((Below.refl _ _).alloc (by simp) _).drew)
              (first
                | (have _q := hown9; refine step_append_rows (by rfl) (.tmp 58) (.tmp 61) (by rfl) wc.heap.size v9 L V (by rfl) (by with_reducible exact hown9) _ _ _ (by rfl) HNV.out.symm (HV8.out _ hcum) (by have := HNV.out; omega) (by have := hcum.size; omega) ?_; intro v10 w10 hown10 hb10; have hcum := hcum.trans hb10; clear hb10 hown9)
                | (have _q := HG; refine step_append_rows (by rfl) (.tmp 56) (.tmp 57) (by rfl) wc.heap.size (.slice (some ⟨wc.heap.size, 0, none⟩) 0 0) [] L (by rfl) (by with_reducible exact (OLs.fresh wc wc.heap.size (Nat.le_refl _)).below (Below.refl _ _).drew) _ _ _ (by rfl) (by first | rfl | exact HNL.out.symm) (HA8.out _ (by assumption)) (by simp; omega) (by simp) ?_; intro v9 w9 hown9 hb9; have hcum := (((Below.refl wc.heap.size wc).alloc (Nat.le_refl _) (.cells #[] 26)).drew).trans hb9; rw [List.nil_append] at hown9; clear hb9 _q HG))
            obtain ⟨A10, c10, rfl, hc10, hr10, -⟩ := hown10.form
            have hs10 := hcum.size
            go_upto_region 11 with (first
              | (at_builtin; refine wpList_append_rows rfl (.tmp 63) (.tmp 64) rfl w10.heap.size (.slice (some ⟨w10.heap.size, 0, none⟩) 1 1) [[]] L rfl (OLs.one_nil w10 w10.heap.size (Nat.le_refl _)) _ _ _ rfl (by first | rfl | exact HNL.out.symm) (HA8.out _ (hcum.alloc hcum.size _)) (by simp; omega) (by simp) ?_; intro v12 w12 hown12 hb12; have hk12 := ((Below.refl w10.heap.size w10).alloc (Nat.le_refl _) (.cells #[.slice none 0 0] 26)).trans hb12; clear hb12))
            obtain ⟨A12, c12, rfl, hc12, hr12, -⟩ := hown12.form
            clear hown12
            have hK8 : Below wc.heap.size wc w12 := hcum.trans (hk12.mono hs10)
            have hR8 : RLs w12 w12.heap.size A8 ((Y ++ [togE Z]) ++ X) := (hr8.below hK8).more hK8.size
            have hR10 : RLs w12 w12.heap.size A10 (L ++ V) := (hr10.below hk12).more hk12.size
            have hRL : RLs w12 w12.heap.size (some ⟨bb, off, none⟩) L := HA8.out w12 hK8
            have hM : REs w12 w12.heap.size A3 (togE L) := (hr34.later hcum0).later hK8
            have hB12 : Below w.heap.size w w12 := keepL hb05 ((keepL hbc4 hcum0).trans (hK8.mono (by have := (keepL hbc4 hcum0).size; omega)))
            have hK : Below w12.heap.size w12 w12 := Below.refl _ _
            have hlm : (liveE (togE L)).length ≤ 120 := Nat.le_trans (List.length_filter_le _ _) htm
            have HF8 := Lib.hid hR8
            have HF10 := Lib.hid hR10
            have HF12 := Lib.hid hr12
            have HFL := Lib.hid hRL
            have HM := Lib.hid hM
            have hg1 : True := trivial
            have G1 := Lib.hid hg1
            have G2 := Lib.hid hg1
            have G3 := Lib.hid hg1
            have G5 := Lib.hid hg1
            clear hg1 hR8 hR10 hr12 hRL hM hr8 hr10 hr34 hcum hcum0 hK8 hk12
            go_wp2_with (first
              | (go_at_call 11; first
                  | (have _q := G1; refine (lists_big _ _ _ _ (togE L) HBP.out (by first | (simp; done) | (simp; omega)) HP.out ((HF8.out.below hK).more hK.size)).mono ?_; rintro e wr ⟨Ar, cr, rfl, hcr, hrr, hbr⟩; have hK := keepL hK hbr; clear hbr _q G1)
                  | (have _q := G2; refine (lists_big _ _ _ _ (togE L) HBT.out (by first | (simp; done) | (simp; omega)) HT.out ((HF10.out.below hK).more hK.size)).mono ?_; rintro e wr ⟨Ar, cr, rfl, hcr, hrr, hbr⟩; have hK := keepL hK hbr; clear hbr _q G2)
                  | (have _q := G3; refine (lists_big ([] :: L) _ _ _ (togE L) HBE.out (by first | (simp; done) | (simp; omega)) HE.out ((HF12.out.below hK).more hK.size)).mono ?_; rintro e wr ⟨Ar, cr, rfl, hcr, hrr, hbr⟩; have hK := keepL hK hbr; clear hbr _q G3)
                  | (refine (lists_big [togE L] _ _ _ (togE L) HBW.out rfl HW.out (RLs.one _ rfl hc3 (HM.out.later hK))).mono ?_; rintro e wr ⟨Ar, cr, rfl, hcr, hrr, hbr⟩; have hK := keepL (hK.alloc hK.size _) hbr; clear hbr))
              | (go_at_call 14; first
                  | (have _q := hrb2; refine (same_lit _ (hrb1.later hbb2) hrb2 rfl (by omega)).mono ?_; rintro e ws ⟨rfl, hbs⟩; have hK := keepL hK hbs; clear hbs)
                  | (refine (same_lit (togE L) hrr (HM.out.later hK) rfl (by omega)).mono ?_; rintro e ws ⟨rfl, hbs⟩; have hK := keepL hK hbs; clear hbs hrr))
              | (go_at_call 15; first
                  | (have _q := G5; refine (bottom_big _ _ _ _ (liveE (togE L)) HBP.out (by first | (simp; done) | (simp; omega)) (by rw [HP.out]) ((HF8.out.below hK).more hK.size)).mono ?_; rintro e wb ⟨Ab, cb, rfl, hcb, hrb1, hbb⟩; have hK := keepL hK hbb; clear hbb _q G5)
                  | (refine (bottom_big L _ _ _ (liveE (togE L)) HBL.out (by first | rfl | exact HNL.out) rfl ((HFL.out.below hK).more hK.size)).mono ?_; rintro e wb2 ⟨Ab2, cb2, rfl, hcb2, hrb2, hbb2⟩; have hK := keepL hK hbb2)))
            go_ret
            exact ⟨by simp, keepL hB12 hK⟩
        · have hRZ : ∀ w', Below wc.heap.size wc w' → RLs w' w'.heap.size (some ⟨bb, off + a, none⟩) ((L.take b).drop a) := fun w' hb => ((((hR2.below hb).more hb.size).take b)).drop a
          have hRX : ∀ w', Below wc.heap.size wc w' → RLs w' w'.heap.size (some ⟨bb, off + b, none⟩) (L.drop b) := fun w' hb => ((hR2.below hb).more hb.size).drop b
          have hNL : L.length = L.length := rfl
          have HNL := Lib.hid hNL
          clear hNL
          have HRZ := Lib.hid hRZ
          have HRX := Lib.hid hRX
          clear hRZ hRX hR2
          generalize (L.take b).drop a = Z at *
          generalize L.take a = Y at *
          generalize L.take b = V at *
          generalize L.drop b = X at *
          go_upto_region 8 with (first
            | (go_at_call 11; first
                | (have _q := HG; refine (lists_big L _ _ _ _ HBL.out (by first | rfl | exact HNL.out) rfl HRL.out).mono ?_; rintro e w3 ⟨A3, c3, rfl, hc3, hr3, hb3⟩; clear _q HG)
                | (refine (lists_big Z _ _ _ _ HBZ.out HNZ.out rfl (HRZ.out _ hb3)).mono ?_; rintro e w4 ⟨A4, c4, rfl, hc4, hr4, hb4⟩; have hb34 := hb3.size)))
          have hbc4 := hb3.trans (hb4.mono hb3.size)
          have hr34 := hr3.later hb4
          have HRY4 : ∀ w', Below w4.heap.size w4 w' → RLs w' w'.heap.size (some ⟨bb, off, none⟩) Y := fun w' hb => HRY.out w' (keepL hbc4 hb)
          have HRX4 : ∀ w', Below w4.heap.size w4 w' → RLs w' w'.heap.size (some ⟨bb, off + b, none⟩) X := fun w' hb => HRX.out w' (keepL hbc4 hb)
          have HRV4 : ∀ w', Below w4.heap.size w4 w' → RLs w' w'.heap.size (some ⟨bb, off, none⟩) V := fun w' hb => HRV.out w' (keepL hbc4 hb)
          have HRA4 : ∀ w', Below w4.heap.size w4 w' → RLs w' w'.heap.size (some ⟨bb, off, none⟩) L := fun w' hb => HRA.out w' (keepL hbc4 hb)
          have HY4 := Lib.hid HRY4
          have HX4 := Lib.hid HRX4
          have HV4 := Lib.hid HRV4
          have HA4 := Lib.hid HRA4
          clear HRY4 HRX4 HRV4 HRA4 HRY HRX HRV HRA HRZ
          go_cut [12] (fun v wr => OLs wr w4.heap.size v ((Y ++ [togE Z]) ++ X) ∧ Below w4.heap.size w4 wr)
          case first =>
            have hg1 : True := trivial
            have HG := Lib.hid hg1
            clear hg1
            go_region_held3 (fun w' => Below w4.heap.size w4 w')
              (first | exact hcum | exact (Below.refl _ _).drew | exact hcum.alloc hcum.size _ | exact (Below.refl _ _).drew.alloc (by simp) _ | exact ((Below.refl _ _).alloc (by simp) _).drew | exact (((Below.refl _ _).alloc (by simp) _).alloc (by simp) _).drew)
              (first
                | (have _q := hown7; refine step_append_rows (by rfl) (.tmp 51) (.tmp 54) (by rfl) w4.heap.size v7 (Y ++ [togE Z]) X (by rfl) (by with_reducible exact hown7) _ _ _ (by rfl) HNX.out.symm (HX4.out _ hcum) (by have := HNX.out; have := HNY.out; simp; omega) (by have := hcum.size; omega) ?_; intro v8 w8 hown8 hb8; have hcum := hcum.trans hb8; clear hb8 hown7)
                | (have _q := hone; refine step_append_rows (by rfl) (.tmp 48) (.tmp 50) (by rfl) w4.heap.size v6 Y [togE Z] (by rfl) (by with_reducible exact hown) _ _ _ (by rfl) rfl hone (by have := HNY.out; simp; omega) (by have := hcum.size; omega) ?_; intro v7 w7 hown7 hb7; have hcum := hcum.trans hb7; clear hb7 hone hown)
                | (have _q := hown; refine step_append_rows (by rfl) (.tmp 48) (.tmp 50) (by rfl) w4.heap.size v6 Y [togE Z] (by rfl) (by with_reducible exact hown.up _) _ _ _ (by rfl) rfl (RLs.one w6 rfl hc4 (hr4.later hcum)) (by have := HNY.out; simp; omega) (by have := hcum.size; simp; omega) ?_; intro v7 w7 hown7 hb7; have hcum := (hcum.alloc hcum.size _).trans hb7; clear hb7 hown)
                | (have _q := HG; refine step_append_rows (by rfl) (.tmp 44) (.tmp 47) (by rfl) w4.heap.size (.slice (some ⟨w4.heap.size, 0, none⟩) 0 0) [] Y (by rfl) (by with_reducible exact (OLs.fresh w4 w4.heap.size (Nat.le_refl _)).below (Below.refl _ _).drew) _ _ _ (by rfl) HNY.out.symm (HY4.out _ (by assumption)) (by have := HNY.out; simp; omega) (by simp) ?_; intro v6 w6 hown hb6; have hcum := (((Below.refl w4.heap.size w4).alloc (Nat.le_refl _) (.cells #[] 26)).drew).trans hb6; rw [List.nil_append] at hown; clear hb6 _q HG)
                | (have _q := HG; refine step_append_beside (by rfl) (.tmp 44) (.tmp 47) (by rfl) w4.heap.size (.slice (some ⟨w4.heap.size, 0, none⟩) 0 0) [] Y (by rfl) (by with_reducible exact ((OLs.fresh w4 w4.heap.size (Nat.le_refl _)).up _).below (Below.refl _ _).drew) _ _ _ (by rfl) HNY.out.symm (HY4.out _ (by assumption)) (by have := HNY.out; simp; omega) (by simp; omega) (some ⟨w4.heap.size + 1, 0, none⟩) [togE Z] (one_after rfl hc4 hr4) (apart (by omega)) ?_; intro v6 w6 hown hb6 hone; have hcum := ((((Below.refl w4.heap.size w4).alloc (Nat.le_refl _) (.cells #[] 26)).alloc (by simp) _).drew).trans hb6; rw [List.nil_append] at hown; clear hb6 _q HG)
                | (have _q := HG; refine step_append_beside (by rfl) (.tmp 44) (.tmp 47) (by rfl) w4.heap.size (.slice (some ⟨w4.heap.size + 1, 0, none⟩) 0 0) [] Y (by rfl) fresh_after _ _ _ (by rfl) HNY.out.symm (HY4.out _ (by assumption)) (by have := HNY.out; simp; omega) (by simp; omega) (some ⟨w4.heap.size, 0, none⟩) [togE Z] (one_before rfl hc4 hr4) (apart (by omega)) ?_; intro v6 w6 hown hb6 hone; have hcum := ((((Below.refl w4.heap.size w4).alloc (Nat.le_refl _) _).alloc (by simp) (.cells #[] 26)).drew).trans hb6; rw [List.nil_append] at hown; clear hb6 _q HG)
                )
            all_goals (go_wp2; go_meet)
            all_goals exact ⟨hown8, hcum⟩
          case rest =>
            obtain ⟨hown8, hcum⟩ := hcut
            obtain ⟨A8, c8, rfl, hc8, hr8, -⟩ := hown8.form
            have h40 : (0 : Int) ≤ (b : Int) := by omega
            go_upto_region 9 with fail
            have hg1 : True := trivial
            have HG := Lib.hid hg1
            clear hg1
            have hs8 := hcum.size
            have hRA8 : ∀ w', Below wc.heap.size wc w' → RLs w' w'.heap.size (some ⟨bb, off, none⟩) L := fun w' hb => HA4.out w' (keepL hcum hb)
            have hRV8 : ∀ w', Below wc.heap.size wc w' → RLs w' w'.heap.size (some ⟨bb, off, none⟩) V := fun w' hb => HV4.out w' (keepL hcum hb)
            have HA8 := Lib.hid hRA8
            have HV8 := Lib.hid hRV8
            have hcum0 := hcum
            clear hRA8 hRV8 hcum hown8
            go_region_held3 (fun w' => Below wc.heap.size wc w')
              (first | exact hcum | exact (Below.refl _ _).drew | exact (Below.refl _ _).drew.alloc (by simp) _ | exact ((Below.refl _ _).alloc (by simp) _).drew)
              (first
                | (have _q := hown9; refine step_append_rows (by rfl) (.tmp 58) (.tmp 61) (by rfl) wc.heap.size v9 L V (by rfl) (by with_reducible exact hown9) _ _ _ (by rfl) HNV.out.symm (HV8.out _ hcum) (by have := HNV.out; omega) (by have := hcum.size; omega) ?_; intro v10 w10 hown10 hb10; have hcum := hcum.trans hb10; clear hb10 hown9)
                | (have _q := HG; refine step_append_rows (by rfl) (.tmp 56) (.tmp 57) (by rfl) wc.heap.size (.slice (some ⟨wc.heap.size, 0, none⟩) 0 0) [] L (by rfl) (by with_reducible exact (OLs.fresh wc wc.heap.size (Nat.le_refl _)).below (Below.refl _ _).drew) _ _ _ (by rfl) (by first | rfl | exact HNL.out.symm) (HA8.out _ (by assumption)) (by simp; omega) (by simp) ?_; intro v9 w9 hown9 hb9; have hcum := (((Below.refl wc.heap.size wc).alloc (Nat.le_refl _) (.cells #[] 26)).drew).trans hb9; rw [List.nil_append] at hown9; clear hb9 _q HG))
            obtain ⟨A10, c10, rfl, hc10, hr10, -⟩ := hown10.form
            have hs10 := hcum.size
            go_upto_region 11 with (first
              | (at_builtin; refine wpList_append_rows rfl (.tmp 63) (.tmp 64) rfl w10.heap.size (.slice (some ⟨w10.heap.size, 0, none⟩) 1 1) [[]] L rfl (OLs.one_nil w10 w10.heap.size (Nat.le_refl _)) _ _ _ rfl (by first | rfl | exact HNL.out.symm) (HA8.out _ (hcum.alloc hcum.size _)) (by simp; omega) (by simp) ?_; intro v12 w12 hown12 hb12; have hk12 := ((Below.refl w10.heap.size w10).alloc (Nat.le_refl _) (.cells #[.slice none 0 0] 26)).trans hb12; clear hb12))
            obtain ⟨A12, c12, rfl, hc12, hr12, -⟩ := hown12.form
            clear hown12
            have hK8 : Below wc.heap.size wc w12 := hcum.trans (hk12.mono hs10)
            have hR8 : RLs w12 w12.heap.size A8 ((Y ++ [togE Z]) ++ X) := (hr8.below hK8).more hK8.size
            have hR10 : RLs w12 w12.heap.size A10 (L ++ V) := (hr10.below hk12).more hk12.size
            have hRL : RLs w12 w12.heap.size (some ⟨bb, off, none⟩) L := HA8.out w12 hK8
            have hM : REs w12 w12.heap.size A3 (togE L) := (hr34.later hcum0).later hK8
            have hB12 : Below w.heap.size w w12 := keepL hb05 ((keepL hbc4 hcum0).trans (hK8.mono (by have := (keepL hbc4 hcum0).size; omega)))
            have hK : Below w12.heap.size w12 w12 := Below.refl _ _
            have hlm : (liveE (togE L)).length ≤ 120 := Nat.le_trans (List.length_filter_le _ _) htm
            have HF8 := Lib.hid hR8
            have HF10 := Lib.hid hR10
            have HF12 := Lib.hid hr12
            have HFL := Lib.hid hRL
            have HM := Lib.hid hM
            have hg1 : True := trivial
            have G1 := Lib.hid hg1
            have G2 := Lib.hid hg1
            have G3 := Lib.hid hg1
            have G5 := Lib.hid hg1
            clear hg1 hR8 hR10 hr12 hRL hM hr8 hr10 hr34 hcum hcum0 hK8 hk12
            go_wp2_with (first
              | (go_at_call 11; first
                  | (have _q := G1; refine (lists_big _ _ _ _ (togE L) HBP.out (by first | (simp; done) | (simp; omega)) HP.out ((HF8.out.below hK).more hK.size)).mono ?_; rintro e wr ⟨Ar, cr, rfl, hcr, hrr, hbr⟩; have hK := keepL hK hbr; clear hbr _q G1)
                  | (have _q := G2; refine (lists_big _ _ _ _ (togE L) HBT.out (by first | (simp; done) | (simp; omega)) HT.out ((HF10.out.below hK).more hK.size)).mono ?_; rintro e wr ⟨Ar, cr, rfl, hcr, hrr, hbr⟩; have hK := keepL hK hbr; clear hbr _q G2)
                  | (have _q := G3; refine (lists_big ([] :: L) _ _ _ (togE L) HBE.out (by first | (simp; done) | (simp; omega)) HE.out ((HF12.out.below hK).more hK.size)).mono ?_; rintro e wr ⟨Ar, cr, rfl, hcr, hrr, hbr⟩; have hK := keepL hK hbr; clear hbr _q G3)
                  | (refine (lists_big [togE L] _ _ _ (togE L) HBW.out rfl HW.out (RLs.one _ rfl hc3 (HM.out.later hK))).mono ?_; rintro e wr ⟨Ar, cr, rfl, hcr, hrr, hbr⟩; have hK := keepL (hK.alloc hK.size _) hbr; clear hbr))
              | (go_at_call 14; first
                  | (have _q := hrb2; refine (same_lit _ (hrb1.later hbb2) hrb2 rfl (by omega)).mono ?_; rintro e ws ⟨rfl, hbs⟩; have hK := keepL hK hbs; clear hbs)
                  | (refine (same_lit (togE L) hrr (HM.out.later hK) rfl (by omega)).mono ?_; rintro e ws ⟨rfl, hbs⟩; have hK := keepL hK hbs; clear hbs hrr))
              | (go_at_call 15; first
                  | (have _q := G5; refine (bottom_big _ _ _ _ (liveE (togE L)) HBP.out (by first | (simp; done) | (simp; omega)) (by rw [HP.out]) ((HF8.out.below hK).more hK.size)).mono ?_; rintro e wb ⟨Ab, cb, rfl, hcb, hrb1, hbb⟩; have hK := keepL hK hbb; clear hbb _q G5)
                  | (refine (bottom_big L _ _ _ (liveE (togE L)) HBL.out (by first | rfl | exact HNL.out) rfl ((HFL.out.below hK).more hK.size)).mono ?_; rintro e wb2 ⟨Ab2, cb2, rfl, hcb2, hrb2, hbb2⟩; have hK := keepL hK hbb2)))
            go_ret
            exact ⟨by simp, keepL hB12 hK⟩
end Go.Proofs.Ytdlcnpjdloinnaa
