/- The walk of MergeNewest. -/
import Derived.Test.YtdlcnpjdloinnaaNew0
import Derived.Carry
import Derived.Deep.RegionHeld3
namespace Go.Proofs.Ytdlcnpjdloinnaa
open Go.RowKit
theorem src12 (L : List (List Ent)) (A : Option Addr) (c n : Nat) (k : ByteArray) (w : World) (hl : L.length ≤ 6) (hls : ∀ l ∈ L, l.length ≤ 20) (hs : ∀ l ∈ L, Rises l) (h : RLs w w.heap.size A L) (hn : sourceE L k.toList = some n) :
    Calls Try.prog 12 #[.string k, .slice A L.length c] w fun e w' => e = .returned (.tuple #[.int .i64 n, .bool true]) ∧ Below w.heap.size w w' := by
  refine (sources_any L A c k w (by omega) (fun l hl => Nat.le_trans (hls l hl) (by omega)) hs h).mono fun e w' ⟨he, hb⟩ => ?_
  rw [hn] at he
  exact ⟨he, hb⟩
theorem owns_below {w w' : World} {b n : Nat} {D : DataW Unit} (h : w.ownsMap Try.prog 9 entElem b n D) (hb : Below w.heap.size w w') : w'.ownsMap Try.prog 9 entElem b n D := by
  have hlt := h.lt
  obtain ⟨es, clock, h0, F, hs, hD⟩ := h
  exact ⟨es, clock, (hb.block b hlt).trans h0, F, hs, hD⟩
set_option maxHeartbeats 4000000 in
set_option maxRecDepth 100000 in
theorem newestLaw_any (D : List (List Dra)) (A : Option Addr) (c : Nat) (w : World) (hl : D.length ≤ 9223372036854775807) (h : RDLs w w.heap.size A D) :
    Calls Try.prog 3 #[.slice A D.length c] w fun e w' => e = .returned (.bool true) ∧ Below w.heap.size w w' := by
  have hs := listsOf_rises D
  have hls := listsOf_len D
  have h6 := listsOf_six D
  have ht := total_lists D
  have hws := H.listsOf_words D
  have hbr := H.listsOf_bare D
  have HTR := Lib.hid (tog_ref hs hbr)
  have HS := Lib.hid hs
  have HLS := Lib.hid hls
  have HW := Lib.hid hws
  have HBR := Lib.hid hbr
  clear hs hls hws hbr
  have hmm := @run_makeMap Try.prog
  go_enter Try.func3, Try.ntmps3
  go_upto_region 5 with (first
    | (go_at_call 9; refine (works_any _).mono ?_; rintro e w1 ⟨rfl, hb1⟩; have hsz1 := hb1.size; have hA := (h.below hb1).more hsz1)
    | (go_at_call 10; first
        | (have _q := hA; refine (lists10_any D A c _ hl hA).mono ?_; rintro e w2 ⟨A2, c2, rfl, hc2, hr2, hS2, hb2⟩; have hb02 := hb1.trans (hb2.mono hsz1); have hsz2 := hb02.size; have hA' := (hA.below hb2).more hb2.size; clear _q hA)
        | (refine (lists10_any D A c _ hl hA').mono ?_; rintro e w3 ⟨A3, c3, rfl, hc3, hr3, hS3, hb3⟩))
    | (go_at_call 11; refine (lists_any A2 c2 (listsOf D) _ (by omega) (fun l hl => Nat.le_trans (HLS.out l hl) (by omega)) (by omega) ((hr2.below hb3).more hb3.size)).mono ?_; rintro e w4 ⟨A4, c4, rfl, hc4, hr4, hb4⟩))
  have hb24 := hb3.trans (hb4.mono hb3.size)
  have hb04 := hb02.trans (hb24.mono hsz2)
  have hsz4 := hb04.size
  have hRL := (hr2.below hb24).more hb24.size
  have hRS := (hr3.below hb4).more hb4.size
  clear hb1 hsz1 hb2 hb02 hsz2 hA' hb3 hb4 hb24 hr2 hr3 h hl
  generalize hLL : listsOf D = L at *
  clear hLL
  have hml : (togE L).length ≤ 120 := Nat.le_trans (togE_length L) ht
  have HML := Lib.hid hml
  clear hml
  go_upto_block 0 with fail
  have hmade : (w4.alloc (.map #[] 0)).ownsMap Try.prog 9 entElem w4.heap.size 0 (mapD []) := World.ownsMap_made w4 Try.prog 9 entElem
  have hbm : Below w4.heap.size w4 (w4.alloc (.map #[] 0)) := (Below.refl _ _).alloc (Nat.le_refl _) _
  generalize w4.alloc (.map #[] 0) = w5 at *
  go_wp2
  go_loopg [7] L.length (fun k i wr => ∃ j : Nat, k = j ∧ j ≤ L.length ∧ i = .int .i64 ((j : Int) - 1) ∧ wr.ownsMap Try.prog 9 entElem w4.heap.size ((L.length - j) * 20) (mapD (refE (L.drop j))) ∧ Below w4.heap.size w4 wr)
  case atStart => exact ⟨L.length, rfl, Nat.le_refl _, rfl, by rw [List.drop_length]; exact hmade.mono (Nat.zero_le _), hbm⟩
  case round =>
    obtain ⟨j, hk, hj, rfl, hown, hb⟩ := hrel
    have HK := Lib.hid hk
    clear hk
    have hsz := hb.size
    cases j with
    | zero =>
      rw [List.drop_zero, ← HTR.out] at hown
      have hown := hown.mono (n' := 120) (by omega)
      have HF := Lib.hid (fun g => told_from (g := g) HS.out)
      have HMW := Lib.hid (H.tog_words HW.out)
      have HMS := Lib.hid (rises_tog HS.out)
      have HHR4 := Lib.hid hr4
      clear hmade hbm hr4 HTR
      generalize togE L = m at *
      obtain ⟨W5, hW5⟩ : ∃ W5, W5 = wr := ⟨_, rfl⟩
      subst hW5
      have hlen := hown.len Try.underlying28 3
      rw [size_map] at hlen
      have HOWN := Lib.hid hown
      clear hown
      go_wp2
      go_loopg [9] m.length (fun k i wr => ∃ q : Nat, k = m.length - q ∧ q ≤ m.length ∧ i = .int .i64 q ∧ wr.ownsMap Try.prog 9 entElem w4.heap.size 120 (mapD m) ∧ Below w4.heap.size w4 wr)
      case atStart => exact ⟨0, rfl, Nat.zero_le _, rfl, HOWN.out, hb⟩
      case round =>
        obtain ⟨q, hkq, hq, rfl, hownq, hbq⟩ := hrel
        have HKQ := Lib.hid hkq
        have HOQ := Lib.hid hownq
        clear hkq hownq hlen
        have hszq := hbq.size
        by_cases hltq : q < m.length
        · obtain ⟨n, hn, hsrc, hfnd⟩ := HF.out m[q] (List.getElem_mem hltq)
          have hwq := HMW.out m[q] (List.getElem_mem hltq)
          have hmem := List.getElem_mem hltq
          have HN := HHR4.out
          obtain ⟨b4, off4, rfl, hb4, d0, d1, d2⟩ := HHR4.out.at_ hltq
          have x0 := ((bcell hbq).1 _ _ hb4).trans d0
          go_upto_region 18 with fail
          go_cut [10, 11] (fun v10 v11 wx => ∃ g, v10 = .pointer (some ⟨g, 0, none⟩) ∧ v11 = .bool true ∧ w4.heap.size < g ∧ g < wx.heap.size ∧ wx.cell? ⟨g, 0, none⟩ = some (.string (m[q]).word) ∧ wx.cell? ⟨g, 1, none⟩ = some (.int .u32 (m[q]).weight) ∧ wx.cell? ⟨g, 2, none⟩ = some (.bool (m[q]).gone) ∧ wx.ownsMap Try.prog 9 entElem w4.heap.size 120 (mapD m) ∧ Below w4.heap.size w4 wx)
          case first =>
            have HO := HOQ.out
            have HMSo := HMS.out
            go_wp2_with (at_lookup; refine wpList_lookup_ent _ rfl (.tmp 70) (.tmp 75) rfl w4.heap.size 120 m m[q] rfl HOQ.out HMS.out hmem rfl hwq ?_; simp only [Ent.agg])
            go_meet
            have hg0 := heap_alloc_new wr (.cells #[.string (m[q]).word, .int .u32 (m[q]).weight, .bool (m[q]).gone] 31)
            exact ⟨wr.heap.size, rfl, rfl, HO.lt, by simp, cell_of_row _ _ 0 _ 31 (0, 0) hg0, cell_of_row _ _ 1 _ 31 (0, 0) hg0, cell_of_row _ _ 2 _ 31 (0, 0) hg0, HO.alloc _, hbq.alloc hszq _⟩
          case rest =>
            obtain ⟨g, rfl, rfl, hg4, hgl, e0, e1, e2, hox, hbx⟩ := hcut
            have hszx := hbx.size
            have z0 := ((bcell hbx).1 _ _ hb4).trans d0
            clear x0
            go_upto_region 20 with (go_at_call 12; refine (src12 L A2 c2 n (m[q]).word wc h6 HLS.out HS.out ((hRL.below hbx).more hszx) hsrc).mono ?_; rintro e w12 ⟨rfl, hb12⟩)
            have hgl2 := Nat.lt_of_lt_of_le hgl hb12.size
            have hbx2 := hbx.trans (hb12.mono hszx)
            have hsx2 := hbx2.size
            have ho2 := owns_below hox hb12
            have k2 := (bcell hb12).1
            have e0 := (k2 _ _ hgl).trans e0
            have e1 := (k2 _ _ hgl).trans e1
            have e2 := (k2 _ _ hgl).trans e2
            have k4 := (bcell hbx2).1
            have x0 := (k4 _ _ hb4).trans d0
            have x1 := (k4 _ _ hb4).trans d1
            have x2 := (k4 _ _ hb4).trans d2
            have hnL : (n : Int) < (L.length : Int) := by omega
            have HO2 := Lib.hid ho2
            have HHX := Lib.hid hox
            clear z0 hox ho2 k2 k4 hgl hb12 hszx hbx
            go_cut [126] (fun v wy => v = .bool false ∧ Below w12.heap.size w12 wy)
            case first =>
              have hqm : (q : Int) < (m.length : Int) := by omega
              by_cases hq0 : 0 < q
              · obtain ⟨p, hqp⟩ : ∃ p, q = p + 1 := ⟨q - 1, by omega⟩
                have hpm : p < m.length := by omega
                obtain ⟨b9, off9, e9, hb9, y0, y1, y2⟩ := HHR4.out.at_ hpm
                injection e9 with e9
                injection e9 with e9 e10
                subst e9
                subst e10
                have y0 := ((bcell hbx2).1 _ _ hb4).trans y0
                have hpi : IntKind.i64.wrap ((q : Int) - 1) = (p : Int) := by
                  rw [show (q : Int) - 1 = (p : Int) by omega]
                  exact IntWalk.i64_in _ (by have := HML.out; omega)
                have hlt9 : Op.bytesLess (m[p]).word.toList (m[q]).word.toList = true := List.pairwise_iff_getElem.1 HMS.out p q hpm hltq (by omega)
                have hgt9 : Op.bytesLess (m[q]).word.toList (m[p]).word.toList = false := bl_asymm hlt9
                have hne9 : ((m[q]).word.toList == (m[p]).word.toList) = false := by simpa using (bl_ne hlt9).symm
                have hq1 : (0 : Int) < (q : Int) := by omega
                have hp1 : (p : Int) < (m.length : Int) := by omega
                clear d0 d1 d2 y1 y2 hqp
                go_wp2
                go_quiet (fail)
                go_wp2
                go_meet
                exact ⟨by have : ¬ L.length ≤ n := by omega
                          simp [this], below_right (Below.refl _ _) nq⟩
              · have hqz : (q : Int) ≤ 0 := by omega
                clear d0 d1 d2
                go_wp2
                go_quiet (fail)
                go_wp2
                go_meet
                exact ⟨by have : ¬ L.length ≤ n := by omega
                          simp [this], below_right (Below.refl _ _) nq⟩
            case rest =>
              obtain ⟨rfl, hbw⟩ := hcut
              have hoc := owns_below HO2.out hbw
              have hbc := hbx2.trans (hbw.mono hsx2)
              have hsc := hbc.size
              clear e0 e1 e2 x0 x1 x2 hbx2 hsx2 HO2 HHX hbw
              obtain ⟨b, off, rfl, hlb, hcs⟩ := hRL (by omega)
              obtain ⟨An, cn, h0, hcn, hrn⟩ := hcs n L[n] (List.getElem?_eq_getElem hn)
              have hln := HLS.out L[n] (List.getElem_mem hn)
              generalize L[n] = ln at *
              have HFN := Lib.hid hfnd
              have HOC := Lib.hid hoc
              clear hfnd hoc
              go_upto_region 22 with fail
              go_cut [14, 15] (fun v14 v15 wy => ∃ g2, v14 = .pointer (some ⟨g2, 0, none⟩) ∧ v15 = .bool true ∧ wy.cell? ⟨g2, 0, none⟩ = some (.string (m[q]).word) ∧ wy.cell? ⟨g2, 1, none⟩ = some (.int .u32 (m[q]).weight) ∧ wy.cell? ⟨g2, 2, none⟩ = some (.bool (m[q]).gone) ∧ Below wc.heap.size wc wy)
              case first =>
                have hbd : Below wc.heap.size wc wc.drew := (Below.refl _ _).drew
                have mk : ∀ w', Below wc.heap.size wc w' → (Below wc.heap.size wc w' ∧ w'.cell? ⟨b, off + n, none⟩ = some (.slice An ln.length cn) ∧ w'.cell? ⟨b4, off4 + q * 3, none⟩ = some (.string (m[q]).word)) := fun w' hb' =>
                  ⟨hb', ((bcell (hbc.trans (hb'.mono hsc))).1 _ _ hlb).trans h0, ((bcell (hbc.trans (hb'.mono hsc))).1 _ _ hb4).trans d0⟩
                have MK := Lib.hid mk
                clear mk
                go_region_held3 (fun w' => Below wc.heap.size wc w' ∧ w'.cell? ⟨b, off + n, none⟩ = some (.slice An ln.length cn) ∧ w'.cell? ⟨b4, off4 + q * 3, none⟩ = some (.string (m[q]).word))
                  (first | exact MK.out _ hbd | exact MK.out _ hcum | exact MK.out _ (hcum.alloc hcum.size _) | exact MK.out _ (hbd.alloc hbd.size _) | exact MK.out _ (((hcum.setCell (p := ⟨wc.heap.size, 0, none⟩) (Nat.le_refl _) _).setCell (p := ⟨wc.heap.size, 1, none⟩) (Nat.le_refl _) _).setCell (p := ⟨wc.heap.size, 2, none⟩) (Nat.le_refl _) _))
                  (first
                    | (go_at_call 13; first
                        | (refine (find_any ln An cn (m[q]).word _ (by omega) ((hrn.below (hbc.trans (hbd.mono hsc))).any)).mono ?_; rintro e wf ⟨rfl, hbf⟩; rw [HFN.out]; simp only [foundE, Ent.agg, Option.getD, Option.isSome]; have hcum := keepL hbd hbf)
                        | (refine (find_any ln An cn (m[q]).word _ (by omega) ((hrn.below (hbc.trans ((hbd.alloc hbd.size _).mono hsc))).any)).mono ?_; rintro e wf ⟨rfl, hbf⟩; rw [HFN.out]; simp only [foundE, Ent.agg, Option.getD, Option.isSome]; have hbk := (hbf.block wc.heap.size (by simp)).trans (heap_alloc_new wc.drew (.cells #[.string ⟨#[]⟩, .int .u32 0, .bool false] 31)); obtain ⟨c0, c1, c2⟩ := box3_cells hbk; have hfz : ∀ i, wf.frozen? ⟨wc.heap.size, i, none⟩ = false := (fun i => by simp [World.frozen?, hbk]); have hcum := keepL (hbd.alloc hbd.size _) hbf)))
                · go_wp2
                  go_meet
                  have hg0 := heap_alloc_new wf (.cells #[.string (m[q]).word, .int .u32 (m[q]).weight, .bool (m[q]).gone] 31)
                  exact ⟨wf.heap.size, rfl, rfl, cell_of_row _ _ 0 _ 31 (0, 0) hg0, cell_of_row _ _ 1 _ 31 (0, 0) hg0, cell_of_row _ _ 2 _ 31 (0, 0) hg0, hcum.alloc hcum.size _⟩
                · go_wp2
                  go_meet
                  have hg := set3 (x := .string (m[q]).word) (y := .int .u32 (m[q]).weight) (z := .bool (m[q]).gone) hbk
                  obtain ⟨g0, g1, g2⟩ := box3_cells hg
                  exact ⟨wc.heap.size, rfl, rfl, g0, g1, g2, ((hcum.setCell (p := ⟨wc.heap.size, 0, none⟩) (Nat.le_refl _) _).setCell (p := ⟨wc.heap.size, 1, none⟩) (Nat.le_refl _) _).setCell (p := ⟨wc.heap.size, 2, none⟩) (Nat.le_refl _) _⟩
              case rest =>
                obtain ⟨g2, rfl, rfl, e0, e1, e2, hby⟩ := hcut
                have hbz := hbc.trans (hby.mono hsc)
                have hsz9 := hbz.size
                have x0 := ((bcell hbz).1 _ _ hb4).trans d0
                have x1 := ((bcell hbz).1 _ _ hb4).trans d1
                have x2 := ((bcell hbz).1 _ _ hb4).trans d2
                have hoz := owns_below HOC.out hby
                have HOZ := Lib.hid hoz
                clear hoz hby hbc
                go_wp2
                go_quiet (fail)
                have hqq := below_right (Below.refl wc.heap.size wc) nq
                go_wp2
                have hml9 := HML.out
                go_roundg (m.length - (q + 1))
                case rel => exact ⟨q + 1, rfl, by omega, by rw [show wrap64 ((q : Int) + 1) = ((q + 1 : Nat) : Int) by unfold wrap64; omega], owns_below HOZ.out hqq, hbz.trans (hqq.mono hsz9)⟩
                case measure => rw [HKQ.out]; omega
        · go_wp2
          go_loopg [16] L.length (fun k i wr => ∃ t : Nat, k = L.length - t ∧ t ≤ L.length ∧ i = .int .i64 t ∧ Below w4.heap.size w4 wr)
          case atStart => exact ⟨0, rfl, Nat.zero_le _, rfl, hbq⟩
          case round =>
            obtain ⟨t, hkt, htl, rfl, hbt⟩ := hrel
            have HKT := Lib.hid hkt
            clear hkt
            have hszt := hbt.size
            by_cases hltt : t < L.length
            · obtain ⟨b, off, rfl, hlb, hcs⟩ := hRL (by omega)
              obtain ⟨b2, off2, rfl, hlb2, hcs2⟩ := hRS (by omega)
              obtain ⟨At, ct, h0, hct, hrt⟩ := hcs t L[t] (List.getElem?_eq_getElem hltt)
              obtain ⟨Bt, dt, k0, hdt, hst⟩ := hcs2 t L[t] (List.getElem?_eq_getElem hltt)
              have hlt20 := HLS.out L[t] (List.getElem_mem hltt)
              generalize L[t] = lt at *
              have hbd : Below w4.heap.size w4 wr.drew := hbt.drew
              have mk : ∀ w', Below w4.heap.size w4 w' → (w'.cell? ⟨b, off + t, none⟩ = some (.slice At lt.length ct) ∧ w'.cell? ⟨b2, off2 + t, none⟩ = some (.slice Bt lt.length dt)) := fun w' hb' => ⟨((bcell hb').1 _ _ hlb).trans h0, ((bcell hb').1 _ _ hlb2).trans k0⟩
              have MK := Lib.hid mk
              clear mk
              go_wp2
              go_region_held3 (fun w' => w'.cell? ⟨b, off + t, none⟩ = some (.slice At lt.length ct) ∧ w'.cell? ⟨b2, off2 + t, none⟩ = some (.slice Bt lt.length dt))
                (first | exact MK.out _ hbd | exact MK.out _ hbe)
                (first | (go_at_call 14; refine (same_any lt At Bt ct dt _ (by omega) ((hrt.below hbd).more hbd.size) ((hst.below hbd).more hbd.size)).mono ?_; rintro e we ⟨rfl, hbe0⟩; have hbe := hbd.trans (hbe0.mono hbd.size)))
              go_wp2
              go_roundg (L.length - (t + 1))
              case rel => exact ⟨t + 1, rfl, by omega, by go_num, hbe⟩
              case measure => rw [HKT.out]; omega
            · go_wp2
              go_ret
              exact ⟨rfl, hb04.trans (hbt.mono hsz4)⟩
    | succ j =>
      have hlt : j < L.length := by omega
      have hst : refE (L.drop j) = withE (refE (L.drop (j + 1))) L[j] := by rw [List.drop_eq_getElem_cons hlt]; rfl
      have HST := Lib.hid hst
      obtain ⟨b, off, rfl, hlb, hcs⟩ := hRL (by omega)
      obtain ⟨Aj, cj, h0, hcj, hrj⟩ := hcs j L[j] (List.getElem?_eq_getElem hlt)
      have hlj := HLS.out L[j] (List.getElem_mem hlt)
      have hwj := HW.out L[j] (List.getElem_mem hlt)
      have hbj := HBR.out L[j] (List.getElem_mem hlt)
      have hsj := HS.out L[j] (List.getElem_mem hlt)
      have hra := rises_ref (L.drop (j + 1))
      have HWJ := Lib.hid hwj
      have HBJ := Lib.hid hbj
      have HRA := Lib.hid hra
      have HSJ := Lib.hid hsj
      have hj0 : ((j + 1 : Nat) : Int) - 1 = (j : Int) := by omega
      rw [hj0]
      have hnn : (L.length - (j + 1)) * 20 ≤ 120 := by omega
      have HOWN := Lib.hid hown
      clear hst hwj hbj hra hsj hj0 hown
      generalize L[j] = lj at *
      generalize refE (L.drop (j + 1)) = acc at *
      generalize hnb : (L.length - (j + 1)) * 20 = nb at *
      have HNB := Lib.hid hnb
      clear hnb
      go_wp2
      go_loopg [8] lj.length (fun k i wr => ∃ q : Nat, k = lj.length - q ∧ q ≤ lj.length ∧ i = .int .i64 q ∧ wr.ownsMap Try.prog 9 entElem w4.heap.size (nb + q) (mapD (withE acc (lj.take q))) ∧ Below w4.heap.size w4 wr)
      case atStart => exact ⟨0, rfl, Nat.zero_le _, rfl, HOWN.out, hb⟩
      case round =>
        obtain ⟨q, hkq, hq, rfl, hownq, hbq⟩ := hrel
        have HKQ := Lib.hid hkq
        clear hkq
        have hszq := hbq.size
        have c0 := ((bcell hbq).1 _ _ hlb).trans h0
        by_cases hltq : q < lj.length
        · obtain ⟨b', off', rfl, hbb', d0, d1, d2⟩ := hrj.at_ hltq
          have hws := HWJ.out lj[q] (List.getElem_mem hltq)
          obtain ⟨wn, hrun, hownn, hgn⟩ := store_ent (w := wr.drew) hownq.drew (rises_with HRA.out (lj.take q)) (HBJ.out lj[q] (List.getElem_mem hltq)) hws (by omega)
          rw [← with_snoc, ← List.take_succ_eq_append_getElem hltq] at hownn
          have hbd : Below w4.heap.size w4 wr.drew := hbq.drew
          have hbn : Below w4.heap.size w4 wn := hbd.grown hgn hbd.size (fun k hk => by cases hk; exact Nat.le_refl _)
          have mk : ∀ w', Below w4.heap.size w4 w' → (w'.cell? ⟨b, off + j, none⟩ = some (.slice (some ⟨b', off', none⟩) lj.length cj) ∧ w'.cell? ⟨b', off' + q * 3, none⟩ = some (.string (lj[q]).word) ∧ w'.cell? ⟨b', off' + q * 3 + 1, none⟩ = some (.int .u32 (lj[q]).weight) ∧ w'.cell? ⟨b', off' + q * 3 + 2, none⟩ = some (.bool (lj[q]).gone)) := fun w' hb' =>
            ⟨((bcell hb').1 _ _ hlb).trans h0, ((bcell hb').1 _ _ hbb').trans d0, ((bcell hb').1 _ _ hbb').trans d1, ((bcell hb').1 _ _ hbb').trans d2⟩
          have MK := Lib.hid mk
          have HON := Lib.hid hownn
          clear mk hownn hownq
          simp only [Ent.agg] at hrun
          go_wp2
          go_region_held3 (fun w' => w'.cell? ⟨b, off + j, none⟩ = some (.slice (some ⟨b', off', none⟩) lj.length cj) ∧ w'.cell? ⟨b', off' + q * 3, none⟩ = some (.string (lj[q]).word) ∧ w'.cell? ⟨b', off' + q * 3 + 1, none⟩ = some (.int .u32 (lj[q]).weight) ∧ w'.cell? ⟨b', off' + q * 3 + 2, none⟩ = some (.bool (lj[q]).gone))
            (first | exact MK.out _ hbd | exact MK.out _ hbn) (fail)
          go_wp2
          go_roundg (lj.length - (q + 1))
          case rel => exact ⟨q + 1, rfl, by omega, by go_num, HON.out, hbn⟩
          case measure => rw [HKQ.out]; omega
        · have e : lj.take q = lj := List.take_of_length_le (by omega)
          rw [e, ← HST.out] at hownq
          go_wp2
          go_roundg j
          case rel => exact ⟨j, rfl, by omega, by rfl, hownq.mono (by have := HNB.out; omega), hbq⟩
          case measure => rw [HK.out]; omega
end Go.Proofs.Ytdlcnpjdloinnaa
