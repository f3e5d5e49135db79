/- RankJoins' law, walked: lists that are ranked are joined as all their hits together are ranked. -/
import Derived.Test.YtjpgcfcacfhmiaaApart
import Derived.Test.YtjpgcfcacfhmiaaJoin
import Derived.Test.YtjpgcfcacfhmiaaHits
import Derived.Test.YtjpgcfcacfhmiaaWorks
namespace Go.Proofs.Ytjpgcfcacfhmiaa
open Go.RowKit
set_option linter.unusedSimpArgs false
set_option linter.unusedVariables false
set_option linter.unnecessarySimpa false
theorem map_sort_perm (L : List (List Hit)) : (L.map sortH).flatten.Perm L.flatten := by
  induction L with
  | nil => exact List.Perm.refl _
  | cons l L ih => simp only [List.map_cons, List.flatten_cons]; exact (sortH_perm l).append ih
theorem top_join (L : List (List Hit)) (kk : Int) : topH (max 0 kk) L.flatten = topH kk (L.map sortH).flatten := by
  unfold topH
  rw [sortH_congr (map_sort_perm L), show (max 0 kk).toNat = kk.toNat by omega]
theorem flat_le {L : List (List Hit)} {m : Nat} (h : ∀ l ∈ L, l.length ≤ m) : L.flatten.length ≤ L.length * m := by
  induction L with
  | nil => simp
  | cons l L ih =>
    rw [List.flatten_cons, List.length_append, List.length_cons, Nat.add_mul]
    have := h l (by simp)
    have := ih fun l' hl => h l' (by simp [hl])
    omega
theorem rtop_join (kk : Int) (L : List (List Hit)) (A : Option Addr) (c : Nat) (w : World) (hl : L.flatten.length ≤ 1000000) (h : RHs w w.heap.size A L.flatten) :
    Calls Try.prog 16 #[.int .i64 (max 0 kk), .slice A L.flatten.length c] w (RetTop w (topH kk (L.map sortH).flatten) 0) := by
  have h1 := rtop16 (max 0 kk) L.flatten A c w hl h
  rw [top_join, if_neg (by omega)] at h1
  exact h1
theorem index39 (a b c d : Int) (i : Nat) (hi : i < 4) (w : World) : (Instr.index 39 (.agg #[.int .i64 a, .int .i64 b, .int .i64 c, .int .i64 d]) (.int .i64 i)).run Try.prog w = .ok (.int .i64 (([a, b, c, d] : List Int).getD i 0)) w := by
  rcases (show i = 0 ∨ i = 1 ∨ i = 2 ∨ i = 3 by omega) with rfl | rfl | rfl | rfl
  all_goals
    simp [Instr.index, run_underlying Try.underlying39, asIntOf, go_sem]
set_option maxHeartbeats 4000000 in
set_option maxRecDepth 100000 in
theorem joins5 (D : List (List (Dra × Int))) (A : Option Addr) (c : Nat) (n : Int) (w : World) (h : RDLs w w.heap.size A D) :
    Calls Try.prog 5 #[.slice A D.length c, .int .i64 n] w fun e w' => e = .returned (.bool true) ∧ Below w.heap.size w w' := by
  have HR := Lib.hid h
  clear h
  go_enter Try.func5, Try.ntmps5
  go_upto_block 0 with (fail)
  go_cut [5, 6] (fun v5 v6 wr => ∃ L : List (List Hit), L.length ≤ 6 ∧ (∀ l ∈ L, l.length ≤ 12) ∧ OLs wr w.heap.size v5 (L.map sortH) ∧ OHs wr w.heap.size v6 L.flatten ∧ Below w.heap.size w wr)
  case first =>
    go_wp2
    go_loopg [5, 6, 7] 6 (fun k v5 v6 v7 wr => ∃ (j : Nat) (L : List (List Hit)), k = 6 - j ∧ j ≤ D.length ∧ j ≤ 6 ∧ L.length = j ∧ (∀ l ∈ L, l.length ≤ 12) ∧ v7 = .int .i64 j ∧ OLsA wr w.heap.size v5 (L.map sortH) v6.ownBlock ∧ OHs wr w.heap.size v6 L.flatten ∧ Below w.heap.size w wr)
    case atStart => exact ⟨0, [], rfl, Nat.zero_le _, Nat.zero_le _, rfl, by simp, rfl, OLsA.nil_ _ _ _, World.ownsRow_nil _ _ _ _, Below.refl _ _⟩
    case round =>
      obtain ⟨j, L, hk, hj, hj6, hlen, h12, rfl, hls, hall, hb⟩ := hrel
      have HK := Lib.hid hk
      have HLEN := Lib.hid hlen
      have H12 := Lib.hid h12
      clear hk hlen h12
      have fin : ∃ L : List (List Hit), L.length ≤ 6 ∧ (∀ l ∈ L, l.length ≤ 12) ∧ OLs wr w.heap.size u5 (L.map sortH) ∧ OHs wr w.heap.size u6 L.flatten ∧ Below w.heap.size w wr := ⟨L, by rw [HLEN.out]; exact hj6, H12.out, hls.ols, hall, hb⟩
      by_cases hlt : j < D.length
      · by_cases h6 : j < 6
        · obtain ⟨b, off, Ai, ci, rfl, hb0, c0, hd, hdl⟩ := HR.out.at_ hb hlt
          clear HR fin
          have hlti : (j : Int) < (D.length : Int) := by omega
          have hfl : L.flatten.length ≤ 72 := Nat.le_trans (flat_le H12.out) (by have := HLEN.out; omega)
          have hmL : (L.map sortH).length = j := by rw [List.length_map]; exact HLEN.out
          have HML := Lib.hid hmL
          clear hmL
          generalize D[j] = d at *
          have hsz := hb.size
          have HO := Lib.hid hall
          have HL := Lib.hid hls
          have HD := Lib.hid (hd.more hsz)
          clear hall hls hd
          obtain ⟨LS, hLS⟩ : ∃ LS, L.map sortH = LS := ⟨_, rfl⟩
          obtain ⟨LF, hLF⟩ : ∃ LF, L.flatten = LF := ⟨_, rfl⟩
          rw [hLS] at HL HML
          rw [hLF] at HO hfl
          have HLS := Lib.hid hLS
          have HLF := Lib.hid hLF
          clear hLS hLF
          go_wp2_with (first
            | (go_at_call 9; refine (hits9 d Ai ci 12 wr hdl (by decide) HD.out).mono ?_; rintro e w1 ⟨hs, v, hsl, rfl, ho1, hb1⟩; obtain ⟨AJ, cJ, rfl, hcJ, hrJ⟩ := OHs.form ho1; have hs1 := hb1.size; have HO1 := Lib.hid ho1; have HHL := Lib.hid hsl; have HRJ := Lib.hid hrJ; clear ho1 hrJ)
            | (at_builtin; first
              | (refine wpList_append_hits_at rfl _ _ rfl w.heap.size _ LF hs rfl (by exact own_below HO.out hb1) AJ _ cJ rfl rfl HRJ.out (by have := HHL.out; omega) (by omega) ?_; intro v6 w2 hown2 hg2 hb2 hat; have hs2 := hb2.size; have ha2 := own_apart HO1.out hg2 (fun k hk e => by have h1 := (HO1.out.lt k hk).1; have h2 := (HO.out.lt k e).2; omega); obtain ⟨AJ2, cJ2, hAJ2, hcJ2, hrJ2⟩ := OHs.form ha2; injection hAJ2 with e1 e2 e3; subst e1; subst e3; have hL2 := (HL.out.below hb1).grown26 (own_below HO.out hb1) hg2 hat; have HL2 := Lib.hid hL2; have HOW2 := Lib.hid hown2; have HRJ2 := Lib.hid hrJ2; clear hL2 hown2 hrJ2 ha2 hg2 hat)
              | (refine wpList_append_list_A rfl _ _ rfl w.heap.size _ LS (sortH hs) v6.ownBlock rfl HL3.out _ rfl rfl rfl HR9.out HOFF.out hc9 (by have := HML.out; omega) (by omega) ?_; intro v5 w4 hL4 hkeep hb4; have hO4 := hkeep _ _ _ HOW3.out; have HL4 := Lib.hid hL4; have HO4 := Lib.hid hO4; clear hL4 hkeep hO4))
            | (go_at_call 14; refine (rsort14o hs _ _ _ (by have := HHL.out; omega) HRJ2.out).mono ?_; rintro e w3 ⟨v9, rfl, ho3, hb3⟩; obtain ⟨A9, c9, rfl, hc9, hr9⟩ := OHs.form ho3; have hs3 := hb3.size; have hoff := off_new ho3 HOW2.out; have HL3 := Lib.hid (HL2.out.below hb3); have HOW3 := Lib.hid (own_below HOW2.out hb3); have HR9 := Lib.hid hr9; have HOFF := Lib.hid hoff; clear hr9 hoff ho3))
          have hbb := (hb.trans (hb1.mono hsz)).trans (hb2.trans ((hb3.mono (by omega)).trans hb4))
          have HBB := Lib.hid hbb
          clear hbb
          go_roundg (6 - (j + 1))
          case rel =>
            refine ⟨j + 1, L ++ [hs], rfl, by omega, by omega, by simp [HLEN.out], fun l hl => ?_, by go_num, ?_, ?_, HBB.out⟩
            · rcases List.mem_append.1 hl with hl | hl
              · exact H12.out l hl
              · simp at hl; rw [hl]; exact HHL.out
            · rw [List.map_append, HLS.out]; exact HL4.out
            · rw [List.flatten_append, HLF.out]; simpa using HO4.out
          case measure => rw [HK.out]; omega
        · go_wp2
          go_meet
          case rel => exact fin
      · go_wp2
        go_meet
        case rel => exact fin
  case rest =>
    obtain ⟨L, hL6, h12, hls, hall, hb⟩ := hcut
    have hfl : L.flatten.length ≤ 72 := Nat.le_trans (flat_le h12) (by omega)
    have hsl : (L.map sortH).flatten.length ≤ 72 := by rw [(map_sort_perm L).length_eq]; exact hfl
    have hss : ∀ l ∈ L.map sortH, Sorted l := fun l hl => by
      obtain ⟨l', _, rfl⟩ := List.mem_map.1 hl
      exact sorted_sortH l'
    have hml : (L.map sortH).length ≤ 6 := by rw [List.length_map]; exact hL6
    obtain ⟨A6, c6, rfl, hc6, hr6⟩ := OHs.form hall
    obtain ⟨A5, c5, rfl, hc5, hr5, -⟩ := OLs.form hls
    have hrt := fun kk w' hl hr => rtop_join kk L A6 c6 w' hl hr
    have HRT := Lib.hid hrt
    have HW := Lib.hid works8
    clear hrt h12 hls hall hL6
    generalize L.flatten = F at *
    generalize L.map sortH = G at *
    have HSS := Lib.hid hss
    have HR6 := Lib.hid hr6
    have HR5 := Lib.hid hr5
    clear hss hr6 hr5
    have hszc := hb.size
    go_wp2
    go_loopg [42] 4 (fun k v42 wr => ∃ j : Nat, k = 4 - j ∧ j ≤ 4 ∧ v42 = .int .i64 j ∧ Below wc.heap.size wc wr)
    case atStart => exact ⟨0, rfl, Nat.zero_le _, rfl, Below.refl _ _⟩
    case round =>
      obtain ⟨j, hk, hj4, rfl, hbr⟩ := hrel
      have HK := Lib.hid hk
      clear hk
      have hr6 : RHs wr wr.heap.size A6 F := (HR6.out.below hbr).more hbr.size
      have hr5 : RLs wr wr.heap.size A5 G := (HR5.out.below hbr).more hbr.size
      by_cases h4 : j < 4
      · go_upto_region 11 with (fail)
        go_cut [10] (fun v10 wx => ∃ kk : Int, v10 = .int .i64 kk ∧ Below wr.heap.size wr wx)
        case first =>
          rcases (show j = 0 ∨ j = 1 ∨ j = 2 ∨ j = 3 by omega) with rfl | rfl | rfl | rfl
          all_goals
            have hix := fun i (hi : i < 4) => index39 n (n.tmod 30) (F.length : Int) 100 i hi wr
            have hi0 := hix 0 (by omega)
            have hi1 := hix 1 (by omega)
            have hi2 := hix 2 (by omega)
            have hi3 := hix 3 (by omega)
            simp at hi0 hi1 hi2 hi3
            clear hix
            go_wp2
            go_meet
            exact ⟨_, rfl, Below.refl _ _⟩
        case rest =>
          obtain ⟨kk, rfl, hbk⟩ := hcut
          have hr6' : RHs wc wc.heap.size A6 F := (hr6.below hbk).more hbk.size
          have hr5' : RLs wc wc.heap.size A5 G := (hr5.below hbk).more hbk.size
          have HR6' := Lib.hid hr6'
          have HR5' := Lib.hid hr5'
          clear hr6 hr5 hr6' hr5'
          have hj4i : (j : Int) < 4 := by omega
          go_wp2_with (first
            | (go_at_call 16; refine (HRT.out kk _ (by omega) HR6'.out).mono ?_; rintro e w1 ⟨A1, c1, rfl, hc1, hr1, hb1⟩; have hr51 := (HR5'.out.below hb1).more hb1.size; have HR51 := Lib.hid hr51; clear hr51)
            | (go_at_call 20; refine (join20 kk G A5 c5 _ (by omega) (by omega) HSS.out HR51.out).mono ?_; rintro e w2 ⟨A2, c2, rfl, hc2, hr2, hb2⟩; have hr12 := (hr1.below hb2).more hb2.size; have htl : (topH kk G.flatten).length ≤ 1000000 := (by rw [topH_length]; omega))
            | (go_at_call 13; refine (same13 (topH kk G.flatten) _ _ _ _ _ htl hr2 hr12).mono ?_; rintro e w3 ⟨rfl, hb3⟩))
          have hbb := hbr.trans ((hbk.trans (hb1.mono hbk.size |>.trans (hb2.mono (by have := hbk.size; have := hb1.size; omega) |>.trans (hb3.mono (by have := hbk.size; have := hb1.size; have := hb2.size; omega))))).mono hbr.size)
          have HBB := Lib.hid hbb
          clear hbb
          go_roundg (4 - (j + 1))
          case rel => exact ⟨j + 1, rfl, by omega, by go_num, HBB.out⟩
          case measure => rw [HK.out]; omega
      · have hj4i : ¬ (j : Int) < 4 := by omega
        go_wp2_with (go_at_call 8; refine (HW.out _).mono ?_; rintro e w1 ⟨rfl, hb1⟩)
        go_ret
        exact ⟨rfl, hb.trans ((hbr.trans (hb1.mono hbr.size)).mono hszc)⟩
end Go.Proofs.Ytjpgcfcacfhmiaa
