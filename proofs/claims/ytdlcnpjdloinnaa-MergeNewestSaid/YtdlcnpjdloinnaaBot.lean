/- The walk of MergeBottom. -/
import Derived.Test.YtdlcnpjdloinnaaWorks
import Derived.Test.YtdlcnpjdloinnaaBotPlain
import Derived.Deep.RegionHeld3
namespace Go.Proofs.Ytdlcnpjdloinnaa
open Go.RowKit
theorem bottom_len (A : Option Addr) (c : Nat) (L : List (List Ent)) (w : World) (N : Nat) (hlen : L.length ≤ 6) (hlens : ∀ l ∈ L, l.length ≤ 20) (htot : total L ≤ 120) (hN : L.length = N) (hL : RLs w w.heap.size A L) :
    Calls Try.prog 15 #[.slice A N c] w (RetEs w (liveE (togE L))) := by
  subst hN
  exact bottom_any A c L w (by omega) (fun l hl => Nat.le_trans (hlens l hl) (by omega)) (by omega) hL
/-- a row of lists that is small enough -/
def Big (L : List (List Ent)) : Prop := L.length ≤ 1000000 ∧ (∀ l ∈ L, l.length ≤ 1000000) ∧ total L ≤ 1000000
theorem big_of {Y Z : List (List Ent)} (h1 : Y.length ≤ 6) (h2 : ∀ l ∈ Y, l.length ≤ 20) (h3 : total Z ≤ 120) : Hid (Big (Y ++ [liveE (togE Z)])) := by
  have h4 : (liveE (togE Z)).length ≤ 120 := Nat.le_trans (List.length_filter_le _ _) (Nat.le_trans (togE_length Z) h3)
  have h5 := total_le h2
  refine ⟨by simp; omega, fun l hl => ?_, ?_⟩
  · rcases List.mem_append.1 hl with h | h
    · have := h2 l h; omega
    · simp at h; subst h; omega
  · rw [total_append]
    have : total [liveE (togE Z)] = (liveE (togE Z)).length := by simp [total]
    omega
theorem bottom_big (L : List (List Ent)) (A : Option Addr) (c : Nat) (w : World) (es : List Ent) (hb : Hid (Big L)) {N : Nat} (hN : L.length = N) (he : liveE (togE L) = es) (hL : RLs w w.heap.size A L) :
    Calls Try.prog 15 #[.slice A N c] w (RetEs w es) := by
  subst hN
  subst he
  exact bottom_any A c L w hb.1 hb.2.1 hb.2.2 hL
set_option maxHeartbeats 4000000 in
set_option maxRecDepth 100000 in
theorem bottomLaw_any (D : List (List Dra)) (A : Option Addr) (c : Nat) (x : Int) (hx0 : 0 ≤ x) (hx1 : x ≤ 255) (w : World) (hl : D.length ≤ 9223372036854775807) (h : RDLs w w.heap.size A D) :
    Calls Try.prog 5 #[.slice A D.length c, .int .u8 x] w fun e w' => e = .returned (.bool true) ∧ Below w.heap.size w w' := by
  have hs := listsOf_rises D
  have hls := listsOf_len D
  have h6 := listsOf_six D
  have ht := total_lists D
  have HB := Lib.hid (bottom_parts hs)
  have HS := Lib.hid hs
  have HLS := Lib.hid hls
  clear hs hls
  go_enter Try.func5, Try.ntmps5
  go_upto_block 0 with (first
    | (go_at_call 9; refine (works_any _).mono ?_; rintro e w1 ⟨rfl, hb1⟩; have hsz1 := hb1.size)
    | (go_at_call 10; refine (lists10_any D A c _ hl ((h.below hb1).more hsz1)).mono ?_; rintro e w2 ⟨A2, c2, rfl, hc2, hr2, hS2, hb2⟩; have hb02 := hb1.trans (hb2.mono hsz1); have hsz2 := hb02.size)
    | (go_at_call 11; refine (lists_any A2 c2 _ _ (by omega) (fun l hl => Nat.le_trans (HLS.out l hl) (by omega)) (by omega) hr2).mono ?_; rintro e w3 ⟨A3, c3, rfl, hc3, hr3, hb3⟩; have hb23 := hb3.size)
    | (go_at_call 15; refine (bottom_any A2 c2 _ _ (by omega) (fun l hl => Nat.le_trans (HLS.out l hl) (by omega)) (by omega) ((hr2.below hb3).more hb23)).mono ?_; rintro e w4 ⟨A4, c4, rfl, hc4, hr4, hb4⟩; have hsz4 := hb4.size))
  have hb24 := hb3.trans (hb4.mono hb23)
  have hb04 := hb02.trans (hb24.mono hsz2)
  have hr3' := hr3.later hb4
  have hr2' : RLs w4 w4.heap.size (some ⟨0, 0, none⟩) (listsOf D) → True := fun _ => trivial
  have hR2 := (hr2.below hb24).more hb24.size
  have htl := togE_length (listsOf D)
  clear hr2 hr3 hr2' hb1 hsz1 hb2 hb02 hsz2 hb3 hb4 hb23 hsz4 h hl
  have hss := hb04.size
  go_cut [8] (fun v8 wr => v8 = .int .i64 (liveE (togE (listsOf D))).length ∧ Below w4.heap.size w4 wr)
  case first =>
    clear hR2 hS2 HS HLS HB
    generalize togE (listsOf D) = m at *
    have hmm : m.length ≤ 120 := by omega
    have hbl : (liveE m).length ≤ 120 := Nat.le_trans (List.length_filter_le _ _) hmm
    go_wp2
    go_loopg [8, 9] m.length (fun k v8 v9 wr => ∃ j : Nat, k = m.length - j ∧ j ≤ m.length ∧ v9 = .int .i64 j ∧ v8 = .int .i64 ((liveE (m.take j)).length) ∧ Below w4.heap.size w4 wr)
    case atStart => exact ⟨0, rfl, Nat.zero_le _, rfl, rfl, Below.refl _ _⟩
    case round =>
      obtain ⟨j, hk, hj, rfl, rfl, hb5⟩ := hrel
      have HK := Lib.hid hk
      clear hk
      have hlj := live_len m j
      by_cases hlt : j < m.length
      · have hlt' : (j : Int) < (m.length : Int) := by omega
        obtain ⟨b, off, rfl, hbb, q0, q1, q2⟩ := (hr3'.below hb5).at_ hlt
        have hLT := live_take hlt
        cases hg : (m[j]).gone with
        | true =>
          rw [hg] at q2 hLT
          have HL := Lib.hid hLT
          clear hLT
          go_wp2_with fail
          go_roundg (m.length - (j + 1))
          case rel => exact ⟨j + 1, rfl, by omega, by go_num, by rw [HL.out]; rfl, hb5⟩
          case measure => rw [HK.out]; omega
        | false =>
          rw [hg] at q2 hLT
          obtain ⟨hk1, hk2⟩ := live_at hlt hg
          obtain ⟨b', off', rfl, hbb', p0, p1, p2⟩ := (hr4.below hb5).at_ hk1
          rw [hk2] at p0 p1 p2
          rw [hg] at p2
          have HL := Lib.hid hLT
          have hk3 : ((liveE (m.take j)).length : Int) < ((liveE m).length : Int) := by omega
          have hk4 : (0 : Int) ≤ ((liveE (m.take j)).length : Int) := by omega
          clear hLT hk2
          generalize (liveE (m.take j)).length = kk at *
          go_wp2_with fail
          go_quiet (fail)
          go_wp2
          go_roundg (m.length - (j + 1))
          case rel => exact ⟨j + 1, rfl, by omega, by go_num, by rw [HL.out]; go_num, below_right hb5 _⟩
          case measure => rw [HK.out]; omega
      · obtain rfl : j = m.length := by omega
        go_wp2
        go_meet
        case rel => exact ⟨by rw [List.take_length], hb5⟩
  case rest =>
    obtain ⟨rfl, hb5⟩ := hcut
    have hR5 := (hR2.below hb5).more hb5.size
    have hr45 := hr4.later hb5
    have hb05 := hb04.trans (hb5.mono hss)
    have hs5 := hb05.size
    clear hR2 hr3' hr4 hb5 hb04 hss hb24 hc3
    generalize hLL : listsOf D = L at *
    clear hLL
    have hbl : (liveE (togE L)).length ≤ 120 := Nat.le_trans (List.length_filter_le _ _) (by omega)
    obtain ⟨n, hn⟩ := Int.eq_ofNat_of_zero_le (Int.emod_nonneg x (show ((L.length : Int) + 1) ≠ 0 by omega))
    have hnl : n ≤ L.length := by have := Int.emod_lt_of_pos x (show (0 : Int) < (L.length : Int) + 1 by omega); omega
    have hRT : ∀ w', Below wc.heap.size wc w' → RLs w' w'.heap.size A2 (L.take n) := fun w' hb => ((hR5.below hb).more hb.size).take n
    have HRT := Lib.hid hRT
    clear hRT
    go_upto_region 14 with fail
    rw [hn]
    have hLd : (L.drop n).length = L.length - n := by simp
    have hLt : n = (L.take n).length := by simp; omega
    have hLd2 : (L.drop n).length ≤ 6 := by omega
    have htd : total (L.drop n) ≤ 120 := by
      have : total L = total (L.take n) + total (L.drop n) := by rw [← total_append, List.take_append_drop]
      omega
    have hZl : ∀ l ∈ L.drop n, l.length ≤ 20 := fun l hl => HLS.out l (List.mem_of_mem_drop hl)
    have HZl := Lib.hid hZl
    have hYl : ∀ l ∈ L.take n, l.length ≤ 20 := fun l hl => HLS.out l (List.mem_of_mem_take hl)
    have HYl := Lib.hid hYl
    have hYn : (L.take n).length ≤ 6 := by simp; omega
    have hfin := HB.out n
    have HF := Lib.hid hfin
    clear hZl hYl hfin HB HS HLS
    rcases hS2 with ⟨rfl, h0, rfl⟩ | ⟨b, off, rfl⟩
    · obtain rfl : n = 0 := by omega
      obtain rfl : L = [] := List.eq_nil_of_length_eq_zero h0
      clear hLd hLt
      have hLd : (([] : List (List Ent)).drop 0).length = 0 := rfl
      have hLt : 0 = (([] : List (List Ent)).take 0).length := rfl
      have hRD : ∀ w', Below wc.heap.size wc w' → RLs w' w'.heap.size none (([] : List (List Ent)).drop 0) := fun w' hb h0 => absurd h0 (by simp)
      have HLt := Lib.hid hLt
      have HLd := Lib.hid hLd
      have HRD := Lib.hid hRD
      clear hLt hLd hRD hR5
      generalize ([] : List (List Ent)).take 0 = Y at *
      generalize ([] : List (List Ent)).drop 0 = Z at *
      have hg0 : True := trivial
      have HG := Lib.hid hg0
      clear hg0
      go_region_held3 (fun w' => Below wc.heap.size wc w')
        (first | exact hcum | exact (Below.refl _ _).drew | exact hcum.alloc hcum.size _ | exact (Below.refl _ _).drew.alloc (by simp) _ | exact ((Below.refl _ _).alloc (by simp) _).drew)
        (first
          | (have _q := HG; refine step_append_rows (by rfl) (.tmp 54) (.tmp 57) (by rfl) wc.heap.size _ [] Y (by rfl) ((OLs.fresh wc wc.heap.size (Nat.le_refl _)).below (Below.refl _ _).drew) _ _ _ (by rfl) HLt.out (HRT.out _ (by assumption)) (by simp; omega) (by simp) ?_; intro v6 w6 hown hb6; have hcum := (((Below.refl wc.heap.size wc).alloc (Nat.le_refl _) (.cells #[] 26)).drew).trans hb6; rw [List.nil_append] at hown; clear hb6 _q HG)
          | (go_at_call 15; refine (bottom_len _ _ Z _ _ hLd2 HZl.out htd HLd.out (HRD.out _ hcum)).mono ?_; rintro e w7 ⟨A7, c7, rfl, hc7, hr7, hb7⟩; have hown := hown.below hb7; have hcum := keepL hcum hb7)
          | (have _q := hr7; refine step_append_rows (by rfl) (.tmp 58) (.tmp 63) (by rfl) wc.heap.size _ Y [liveE (togE Z)] (by rfl) (hown.up _) _ _ _ (by rfl) rfl (RLs.one w7 rfl hc7 hr7) (by simp; omega) (by have := hcum.size; simp; omega) ?_; intro v8 w8 hown8 hb8; have hcum := (hcum.alloc hcum.size _).trans hb8; clear hb8))
      clear hown hr7 hb7
      obtain ⟨A8, c8, rfl, hc8, hr8, -⟩ := hown8.form
      have hs8 := hcum.size
      have hbig := big_of hYn HYl.out htd
      have HB8 := Lib.hid (bottom_big (Y ++ [liveE (togE Z)]) A8 c8 w8 _ hbig (show _ = Y.length + 1 by simp) HF.out hr8)
      clear HF
      go_wp2_with (first
        | (go_at_call 15; refine HB8.out.mono ?_; rintro e w9 ⟨A9, c9, rfl, hc9, hr9, hb9⟩)
        | (go_at_call 14; refine (same_lit _ hr9 (((hr45.later hcum)).later hb9) rfl (by omega)).mono ?_; rintro e w10 ⟨rfl, hb10⟩))
      go_ret
      exact ⟨rfl, (keepL hb05 hcum).trans ((hb9.trans (hb10.mono hb9.size)).mono (by omega))⟩
    · have e1 : (0 : Int) ≤ (n : Int) := by omega
      have e2 : (n : Int) ≤ (L.length : Int) := by omega
      have e3 : (n : Int) ≤ (c2 : Int) := by omega
      have e4 : (L.length : Int) ≤ (c2 : Int) := by omega
      by_cases hcn : c2 = n
      · obtain rfl : n = L.length := by omega
        subst hcn
        clear hLd
        have hLd : (L.drop L.length).length = 0 := by simp
        have hRD : ∀ w', Below wc.heap.size wc w' → RLs w' w'.heap.size (some ⟨b, off, none⟩) (L.drop L.length) := fun w' hb => by
          intro h0
          simp at h0
        have HLt := Lib.hid hLt
        have HLd := Lib.hid hLd
        have HRD := Lib.hid hRD
        clear hLt hLd hRD hR5
        generalize L.take L.length = Y at *
        generalize L.drop L.length = Z at *
        have hg0 : True := trivial
        have HG := Lib.hid hg0
        clear hg0
        go_region_held3 (fun w' => Below wc.heap.size wc w')
          (first | exact hcum | exact (Below.refl _ _).drew | exact hcum.alloc hcum.size _ | exact (Below.refl _ _).drew.alloc (by simp) _ | exact ((Below.refl _ _).alloc (by simp) _).drew)
          (first
            | (have _q := HG; refine step_append_rows (by rfl) (.tmp 54) (.tmp 57) (by rfl) wc.heap.size _ [] Y (by rfl) ((OLs.fresh wc wc.heap.size (Nat.le_refl _)).below (Below.refl _ _).drew) _ _ _ (by rfl) HLt.out (HRT.out _ (by assumption)) (by simp; omega) (by simp) ?_; intro v6 w6 hown hb6; have hcum := (((Below.refl wc.heap.size wc).alloc (Nat.le_refl _) (.cells #[] 26)).drew).trans hb6; rw [List.nil_append] at hown; clear hb6 _q HG)
            | (go_at_call 15; refine (bottom_len _ _ Z _ _ hLd2 HZl.out htd HLd.out (HRD.out _ hcum)).mono ?_; rintro e w7 ⟨A7, c7, rfl, hc7, hr7, hb7⟩; have hown := hown.below hb7; have hcum := keepL hcum hb7)
            | (have _q := hr7; refine step_append_rows (by rfl) (.tmp 58) (.tmp 63) (by rfl) wc.heap.size _ Y [liveE (togE Z)] (by rfl) (hown.up _) _ _ _ (by rfl) rfl (RLs.one w7 rfl hc7 hr7) (by simp; omega) (by have := hcum.size; simp; omega) ?_; intro v8 w8 hown8 hb8; have hcum := (hcum.alloc hcum.size _).trans hb8; clear hb8))
        clear hown hr7 hb7
        obtain ⟨A8, c8, rfl, hc8, hr8, -⟩ := hown8.form
        have hs8 := hcum.size
        have hbig := big_of hYn HYl.out htd
        have HB8 := Lib.hid (bottom_big (Y ++ [liveE (togE Z)]) A8 c8 w8 _ hbig (show _ = Y.length + 1 by simp) HF.out hr8)
        clear HF
        go_wp2_with (first
          | (go_at_call 15; refine HB8.out.mono ?_; rintro e w9 ⟨A9, c9, rfl, hc9, hr9, hb9⟩)
          | (go_at_call 14; refine (same_lit _ hr9 (((hr45.later hcum)).later hb9) rfl (by omega)).mono ?_; rintro e w10 ⟨rfl, hb10⟩))
        go_ret
        exact ⟨rfl, (keepL hb05 hcum).trans ((hb9.trans (hb10.mono hb9.size)).mono (by omega))⟩
      · have hRD : ∀ w', Below wc.heap.size wc w' → RLs w' w'.heap.size (some ⟨b, off + n, none⟩) (L.drop n) := fun w' hb => ((hR5.below hb).more hb.size).drop n
        have HLt := Lib.hid hLt
        have HLd := Lib.hid hLd
        have HRD := Lib.hid hRD
        clear hLt hLd hRD hR5
        generalize L.take n = Y at *
        generalize L.drop n = Z at *
        have hg0 : True := trivial
        have HG := Lib.hid hg0
        clear hg0
        go_region_held3 (fun w' => Below wc.heap.size wc w')
          (first | exact hcum | exact (Below.refl _ _).drew | exact hcum.alloc hcum.size _ | exact (Below.refl _ _).drew.alloc (by simp) _ | exact ((Below.refl _ _).alloc (by simp) _).drew)
          (first
            | (have _q := HG; refine step_append_rows (by rfl) (.tmp 54) (.tmp 57) (by rfl) wc.heap.size _ [] Y (by rfl) ((OLs.fresh wc wc.heap.size (Nat.le_refl _)).below (Below.refl _ _).drew) _ _ _ (by rfl) HLt.out (HRT.out _ (by assumption)) (by simp; omega) (by simp) ?_; intro v6 w6 hown hb6; have hcum := (((Below.refl wc.heap.size wc).alloc (Nat.le_refl _) (.cells #[] 26)).drew).trans hb6; rw [List.nil_append] at hown; clear hb6 _q HG)
            | (go_at_call 15; refine (bottom_len _ _ Z _ _ hLd2 HZl.out htd HLd.out (HRD.out _ hcum)).mono ?_; rintro e w7 ⟨A7, c7, rfl, hc7, hr7, hb7⟩; have hown := hown.below hb7; have hcum := keepL hcum hb7)
            | (have _q := hr7; refine step_append_rows (by rfl) (.tmp 58) (.tmp 63) (by rfl) wc.heap.size _ Y [liveE (togE Z)] (by rfl) (hown.up _) _ _ _ (by rfl) rfl (RLs.one w7 rfl hc7 hr7) (by simp; omega) (by have := hcum.size; simp; omega) ?_; intro v8 w8 hown8 hb8; have hcum := (hcum.alloc hcum.size _).trans hb8; clear hb8))
        clear hown hr7 hb7
        obtain ⟨A8, c8, rfl, hc8, hr8, -⟩ := hown8.form
        have hs8 := hcum.size
        have hbig := big_of hYn HYl.out htd
        have HB8 := Lib.hid (bottom_big (Y ++ [liveE (togE Z)]) A8 c8 w8 _ hbig (show _ = Y.length + 1 by simp) HF.out hr8)
        clear HF
        go_wp2_with (first
          | (go_at_call 15; refine HB8.out.mono ?_; rintro e w9 ⟨A9, c9, rfl, hc9, hr9, hb9⟩)
          | (go_at_call 14; refine (same_lit _ hr9 (((hr45.later hcum)).later hb9) rfl (by omega)).mono ?_; rintro e w10 ⟨rfl, hb10⟩))
        go_ret
        exact ⟨rfl, (keepL hb05 hcum).trans ((hb9.trans (hb10.mono hb9.size)).mono (by omega))⟩
end Go.Proofs.Ytdlcnpjdloinnaa
