/- The walk of MergeFinds. -/
import Derived.Test.YtdlcnpjdloinnaaHLists
import Derived.Test.YtdlcnpjdloinnaaHPlain
import Derived.Test.YtdlcnpjdloinnaaBot
namespace Go.Proofs.Ytdlcnpjdloinnaa
open Go.RowKit
set_option maxHeartbeats 4000000 in
set_option maxRecDepth 100000 in
theorem findsLaw_any (D : List (List Dra)) (A : Option Addr) (c : Nat) (x y : Int) (hx0 : 0 ≤ x) (hx1 : x ≤ 255) (hy0 : 0 ≤ y) (hy1 : y ≤ 255) (w : World) (hl : D.length ≤ 9223372036854775807) (h : RDLs w w.heap.size A D) :
    Calls Try.prog 7 #[.slice A D.length c, .int .u8 x, .int .u8 y] w fun e w' => e = .returned (.bool true) ∧ Below w.heap.size w w' := by
  have hs := listsOf_rises D
  have hls := listsOf_len D
  have h6 := listsOf_six D
  have ht := total_lists D
  have hws := H.listsOf_words D
  have HB := Lib.hid (fun b most => H.finds_law b most hs)
  have HS := Lib.hid hs
  have HLS := Lib.hid hls
  have HW := Lib.hid hws
  clear hs hls hws
  go_enter Try.func7, Try.ntmps7
  go_upto_block 0 with (first
    | (go_at_call 9; refine (works_any _).mono ?_; rintro e w1 ⟨rfl, hb1⟩; have hsz1 := hb1.size)
    | (go_at_call 10; refine (lists10_any D A c _ hl ((h.below hb1).more hsz1)).mono ?_; rintro e w2 ⟨A2, c2, rfl, hc2, hr2, hS2, hb2⟩; have hb02 := hb1.trans (hb2.mono hsz1); have hsz2 := hb02.size))
  clear h hl hb1 hb2 hsz1
  generalize hLL : listsOf D = L at *
  clear hLL
  go_wp2
  go_loopg [8, 9] L.length (fun k v i wr => ∃ j : Nat, k = L.length - j ∧ j ≤ L.length ∧ i = .int .i64 j ∧ H.OLs wr w2.heap.size v ((L.take j).map fun l => H.nearH (y % 4) (H.hitsOf x l)) ∧ Below w2.heap.size w2 wr)
  case atStart => exact ⟨0, rfl, Nat.zero_le _, rfl, H.OLs.nil_ _ _, Below.refl _ _⟩
  case round =>
    obtain ⟨j, hk, hj, rfl, hown, hb⟩ := hrel
    have HK := Lib.hid hk
    clear hk
    have hsz := hb.size
    by_cases hlt : j < L.length
    · obtain ⟨b, off, rfl, hlb, hcs⟩ := hr2 (by omega)
      obtain ⟨Ai, ci, h0, hcc, hds⟩ := hcs j L[j] (List.getElem?_eq_getElem hlt)
      have h0' := ((bcell hb).1 _ _ hlb).trans h0
      have hst : (L.take (j + 1)).map (fun l => H.nearH (y % 4) (H.hitsOf x l)) = (L.take j).map (fun l => H.nearH (y % 4) (H.hitsOf x l)) ++ [H.nearH (y % 4) (H.hitsOf x L[j])] := by rw [List.take_succ_eq_append_getElem hlt, List.map_append]; rfl
      have HST := Lib.hid hst
      have hal : ((L.take j).map (fun l => H.nearH (y % 4) (H.hitsOf x l))).length ≤ 1000000000 := by simp; omega
      have hwl := HW.out L[j] (List.getElem_mem hlt)
      have hll := HLS.out L[j] (List.getElem_mem hlt)
      have HWL := Lib.hid hwl
      have hhl : (H.hitsOf x L[j]).length ≤ 20 := by simpa [H.hitsOf] using hll
      clear hst h0 hwl
      go_wp2_with (first
        | (go_at_call 16; refine (H.hits16_any L[j] Ai ci x wr ⟨hx0, hx1⟩ (by omega) (fun e he => Nat.le_trans (HWL.out e he) (by omega)) ((hds.below hb).any)).mono ?_; rintro e w3 ⟨A3, c3, rfl, hc3, hr3, hb3⟩; have hsz3 := hb3.size)
        | (go_at_call 23; refine (H.near_any (H.hitsOf x L[j]) A3 c3 _ w3 (by omega) hr3).mono ?_; rintro e w4 ⟨A4, c4, rfl, hc4, hr4, hb4⟩; have hsz4 := hb4.size)
        | (at_builtin; refine H.wpList_append_list rfl (.tmp 20) (.tmp 31) rfl w2.heap.size _ _ (H.nearH (y % 4) (H.hitsOf x L[j])) rfl ((hown.below hb3).below hb4) _ rfl (by simp) rfl hr4 hc4 hal (by omega) ?_; intro v' w' hown' hb'))
      go_roundg (L.length - (j + 1))
      case rel => exact ⟨j + 1, rfl, by omega, by go_num, by rw [HST.out]; exact hown', hb.trans (((hb3.trans (hb4.mono hsz3)).mono hsz).trans hb')⟩
      case measure => rw [HK.out]; omega
    · have e : ((L.take j).map fun l => H.nearH (y % 4) (H.hitsOf x l)) = L.map fun l => H.nearH (y % 4) (H.hitsOf x l) := by rw [List.take_of_length_le (by omega)]
      rw [e] at hown
      obtain ⟨A5, c5, rfl, hc5, hr5, -⟩ := H.OLs.form hown
      have hR2 := (hr2.below hb).more hsz
      have hfl : ∀ l ∈ L.map (fun l => H.nearH (y % 4) (H.hitsOf x l)), l.length ≤ 20 := fun l hl => by
        obtain ⟨l0, h0, rfl⟩ := List.mem_map.1 hl
        exact Nat.le_trans (List.length_filter_le _ _) (by simpa [H.hitsOf] using HLS.out l0 h0)
      have hft : H.total (L.map (fun l => H.nearH (y % 4) (H.hitsOf x l))) ≤ 10000 := by
        have : ∀ M : List (List Hit), (∀ l ∈ M, l.length ≤ 20) → H.total M ≤ M.length * 20 := fun M hM => by
          induction M with
          | nil => simp [H.total]
          | cons l M ih =>
            have h1 := ih fun x hx => hM x (List.mem_cons_of_mem _ hx)
            have h2 := hM l (List.mem_cons_self ..)
            simp only [H.total, List.map_cons, List.sum_cons, List.length_cons] at h1 ⊢
            omega
        have h1 := this _ hfl
        simp at h1
        omega
      have htl := togE_length L
      have hlm : (liveE (togE L)).length ≤ 120 := Nat.le_trans (List.length_filter_le _ _) (by omega)
      have hbw := H.tog_words HW.out
      have hlw : ∀ e ∈ liveE (togE L), e.word.size ≤ 1000000 := fun e he => Nat.le_trans (hbw e (List.filter_sublist.subset he)) (by omega)
      have HLW := Lib.hid hlw
      have hhl : (H.hitsOf x (liveE (togE L))).length ≤ 120 := by simpa [H.hitsOf] using hlm
      have hnl : (H.nearH (y % 4) (H.hitsOf x (liveE (togE L)))).length ≤ 120 := Nat.le_trans (List.length_filter_le _ _) hhl
      have HFL := Lib.hid hfl
      have HR5 := Lib.hid hr5
      have hm5 : (L.map fun l => H.nearH (y % 4) (H.hitsOf x l)).length = L.length := by simp
      have HM5 := Lib.hid hm5
      have HFE := Lib.hid (HB.out x (y % 4))
      clear hlw hfl hr5 hown hm5 e hr2 hbw
      generalize (L.map fun l => H.nearH (y % 4) (H.hitsOf x l)) = M at *
      go_wp2_with (first
        | (go_at_call 20; refine (H.hits_any A5 c5 M wr (by have := HM5.out; omega) (fun l hl => Nat.le_trans (HFL.out l hl) (by omega)) (by omega) HR5.out).mono ?_; rintro e w3 ⟨A3, c3, rfl, hc3, hr3, hb3⟩; have hsz3 := hb3.size)
        | (go_at_call 15; refine (bottom_any A2 c2 L w3 (by omega) (fun l hl => Nat.le_trans (HLS.out l hl) (by omega)) (by omega) ((hR2.below hb3).more hsz3)).mono ?_; rintro e w4 ⟨A4, c4, rfl, hc4, hr4, hb4⟩; have hsz4 := hb4.size)
        | (go_at_call 16; refine (H.hits16_any (liveE (togE L)) A4 c4 x w4 ⟨hx0, hx1⟩ (by omega) HLW.out hr4).mono ?_; rintro e w5 ⟨A6, c6, rfl, hc6, hr6, hb6⟩; have hsz6 := hb6.size)
        | (go_at_call 23; refine (H.near_any (H.hitsOf x (liveE (togE L))) A6 c6 _ w5 (by omega) hr6).mono ?_; rintro e w6 ⟨A7, c7, rfl, hc7, hr7, hb7⟩; have hsz7 := hb7.size)
        | (go_at_call 19; rw [HFE.out] at hr3; rw [HFE.out]; refine (H.same_any _ A3 A7 c3 c7 w6 (by omega) (((hr3.later hb4).later hb6).later hb7) hr7).mono ?_; rintro e w7 ⟨rfl, hb8⟩))
      go_ret
      exact ⟨rfl, hb02.trans ((((((hb.trans (hb3.mono hsz)).trans (hb4.mono (by omega))).trans (hb6.mono (by omega))).trans (hb7.mono (by omega))).trans (hb8.mono (by omega))).mono hsz2)⟩
end Go.Proofs.Ytdlcnpjdloinnaa
