/- The document's answer for hits (ref22.Hits), walked: it gives what merge.Hits gives. -/
import Derived.Test.YtdlcnpjdloinnaaHLists
import Derived.Test.YtdlcnpjdloinnaaHRefPlain
namespace Go.Proofs.Ytdlcnpjdloinnaa.H
open Go.RowKit Go.Shelf
theorem total_ents {L : List (List Hit)} (h : ∀ l ∈ L, l.length ≤ 20) : Ytdlcnpjdloinnaa.total (ents L) ≤ L.length * 20 := by
  have := total_le (L := ents L) (n := 20) (fun l hl => by
    obtain ⟨l0, h0, rfl⟩ := List.mem_map.1 hl
    simpa using h l0 h0)
  simpa [ents] using this
theorem ref18 (E : List (List Ent)) (G : List Hit) (A : Option Addr) (c : Nat) (w : World) {N : Nat} (hN : E.length = N) (hl : E.length ≤ 6) (hls : ∀ l ∈ E, l.length ≤ 20) (ht : Ytdlcnpjdloinnaa.total E ≤ 120) (h : Ytdlcnpjdloinnaa.RLs w w.heap.size A E) (hG : liveE (refE E) = G.map Hit.ent) :
    Calls Try.prog 18 #[.slice A N c] w fun e w' => ∃ A' c', e = .returned (.slice A' G.length c') ∧ G.length ≤ c' ∧ REs w' w'.heap.size A' (G.map Hit.ent) ∧ Below w.heap.size w w' := by
  subst hN
  refine (refBottom_any E A c w (by omega) (fun l hl => Nat.le_trans (hls l hl) (by omega)) (by omega) h).mono fun e w' ⟨A', c', he, hc, hr, hb⟩ => ?_
  rw [hG] at he hc hr
  rw [List.length_map] at he hc
  exact ⟨A', c', he, hc, hr, hb⟩
theorem src22 (E : List (List Ent)) (A : Option Addr) (c n : Nat) (k : ByteArray) (w : World) {N : Nat} (hN : E.length = N) (hl : E.length ≤ 6) (hls : ∀ l ∈ E, l.length ≤ 20) (h : Ytdlcnpjdloinnaa.RLs w w.heap.size A E) (hs : sourceE E k.toList = some n) :
    Calls Try.prog 22 #[.string k, .slice A N c] w fun e w' => e = .returned (.tuple #[.int .i64 n, .bool true]) ∧ Below w.heap.size w w' := by
  subst hN
  refine (refSources_any E A c k w (by omega) (fun l hl => Nat.le_trans (hls l hl) (by omega)) h).mono fun e w' ⟨he, hb⟩ => ?_
  rw [hs] at he
  exact ⟨he, hb⟩
set_option maxHeartbeats 4000000 in
set_option maxRecDepth 100000 in
theorem refHits_any (L : List (List Hit)) (A : Option Addr) (c : Nat) (w : World) (hl : L.length ≤ 6) (hls : ∀ l ∈ L, l.length ≤ 20) (hs : ∀ l ∈ L, Rises l) (hbr : ∀ l ∈ ents L, Bare l) (h : RLs w w.heap.size A L) :
    Calls Try.prog 21 #[.slice A L.length c] w (RetHs w (liveH (togE L))) := by
  have HS := Lib.hid (fun g => source_of (g := g) hs)
  have HR := Lib.hid (ref_live hs hbr)
  have HLS := Lib.hid hls
  have htl : total L ≤ 120 := by
    have : ∀ M : List (List Hit), (∀ l ∈ M, l.length ≤ 20) → total M ≤ M.length * 20 := fun M hM => by
      induction M with
      | nil => simp [total]
      | cons l M ih =>
        have h1 := ih fun x hx => hM x (List.mem_cons_of_mem _ hx)
        have h2 := hM l (List.mem_cons_self ..)
        simp only [total, List.map_cons, List.sum_cons, List.length_cons] at h1 ⊢
        omega
    have := this _ hls
    omega
  have hgl : (liveH (togE L)).length ≤ 120 := Nat.le_trans (List.length_filter_le _ _) (Nat.le_trans (togE_length L) htl)
  have hte := total_ents hls
  have hel : ∀ l ∈ ents L, l.length ≤ 20 := fun l hl => by
    obtain ⟨l0, h0, rfl⟩ := List.mem_map.1 hl
    simpa using hls l0 h0
  have HEL := Lib.hid hel
  have hen : (ents L).length = L.length := by simp [ents]
  have HEN := Lib.hid hen
  clear hs hbr hls hel hen
  generalize hG : liveH (togE L) = G at *
  clear hG
  go_enter Try.func21, Try.ntmps21
  go_wp2
  go_loopg [3, 4] L.length (fun k v i wr => ∃ j : Nat, k = L.length - j ∧ j ≤ L.length ∧ i = .int .i64 j ∧ Ytdlcnpjdloinnaa.OLs wr w.heap.size v (ents (L.take j)) ∧ Below w.heap.size w wr)
  case atStart => exact ⟨0, rfl, Nat.zero_le _, rfl, Ytdlcnpjdloinnaa.OLs.nil_ _ _, Below.refl _ _⟩
  case round =>
    obtain ⟨j, hk, hj, rfl, hown, hb⟩ := hrel
    have HK := Lib.hid hk
    clear hk
    have hsz := hb.size
    by_cases hlt : j < L.length
    · obtain ⟨b, off, rfl, hlb, hcs⟩ := h (by omega)
      obtain ⟨Aj, cj, h0, hcj, hrj⟩ := hcs j L[j] (List.getElem?_eq_getElem hlt)
      have hll := HLS.out L[j] (List.getElem_mem hlt)
      have hst : ents (L.take (j + 1)) = ents (L.take j) ++ [(L[j]).map Hit.ent] := by unfold ents; rw [List.take_succ_eq_append_getElem hlt, List.map_append]; rfl
      have HST := Lib.hid hst
      have hal : (ents (L.take j)).length ≤ 1000000000 := by simp [ents]; omega
      have HAL := Lib.hid hal
      clear hst hal
      generalize L[j] = lj at *
      generalize ents (L.take j) = EJ at *
      obtain ⟨W0, hW0⟩ : ∃ W0, W0 = wr := ⟨_, rfl⟩
      subst hW0
      go_wp2
      go_loopg [5, 6] lj.length (fun k v i wr' => ∃ m : Nat, k = lj.length - m ∧ m ≤ lj.length ∧ i = .int .i64 m ∧ OEs wr' W0.heap.size v ((lj.take m).map Hit.ent) ∧ Below W0.heap.size W0 wr')
      case atStart => exact ⟨0, rfl, Nat.zero_le _, rfl, World.ownsRow_nil _ _ _ _, Below.refl _ _⟩
      case round =>
        obtain ⟨m, hkm, hm, rfl, hownm, hbm⟩ := hrel
        have HKM := Lib.hid hkm
        clear hkm
        have hszm := hbm.size
        have hb2 := hb.trans (hbm.mono hsz)
        have h0' := ((bcell hb2).1 _ _ hlb).trans h0
        by_cases hltm : m < lj.length
        · obtain ⟨b', off', rfl, hbb', d0, d1, d2, d3⟩ := (hrj.below hb2).at_ hltm
          have hst2 : (lj.take (m + 1)).map Hit.ent = (lj.take m).map Hit.ent ++ [⟨(lj[m]).word, (lj[m]).weight, (lj[m]).gone⟩] := by rw [List.take_succ_eq_append_getElem hltm, List.map_append]; rfl
          have HST2 := Lib.hid hst2
          have hal2 : ((lj.take m).map Hit.ent).length ≤ 1000000000 := by simp; omega
          clear hst2
          go_wp2_with (at_builtin; refine wpList_append_ent rfl (.tmp 28) (.tmp 37) rfl W0.heap.size _ _ rfl hownm _ rfl (by simp) (by simpa using hal2) (by omega) ?_; intro v' w' hown' hg' hb'; clear hg')
          go_roundg (lj.length - (m + 1))
          case rel => exact ⟨m + 1, rfl, by omega, by go_num, by rw [HST2.out]; exact hown', hbm.trans hb'⟩
          case measure => rw [HKM.out]; omega
        · have e : (lj.take m).map Hit.ent = lj.map Hit.ent := by rw [List.take_of_length_le (by omega)]
          rw [e] at hownm
          obtain ⟨A5, c5, rfl, hc5, hr5⟩ := OEs.form hownm
          have hownE := hown.below hbm
          clear e hownm
          generalize lj.map Hit.ent = ej at *
          go_wp2_with (at_builtin; refine Ytdlcnpjdloinnaa.wpList_append_list rfl (.tmp 39) (.tmp 41) rfl w.heap.size _ EJ ej rfl hownE _ rfl (by simp) rfl hr5 hc5 HAL.out (by omega) ?_; intro v' w' hown' hb')
          go_roundg (L.length - (j + 1))
          case rel => exact ⟨j + 1, rfl, by omega, by go_num, by rw [HST.out]; exact hown', hb2.trans hb'⟩
          case measure => rw [HK.out]; omega
    · have e : ents (L.take j) = ents L := by rw [List.take_of_length_le (by omega)]
      rw [e] at hown
      obtain ⟨A3, c3, rfl, hc3, hr3, -⟩ := hown.form
      clear hown e
      have HR3 := Lib.hid hr3
      clear hr3
      obtain ⟨W1, hW1⟩ : ∃ W1, W1 = wr := ⟨_, rfl⟩
      subst hW1
      go_wp2_with (go_at_call 18; refine (ref18 (ents L) G A3 c3 W1 (by first | rfl | exact HEN.out) (by have := HEN.out; omega) HEL.out (by omega) HR3.out HR.out).mono ?_; rintro e w4 ⟨A4, c4, rfl, hc4, hr4, hb4⟩; have hsz4 := hb4.size)
      have hb04 := hb.trans (hb4.mono hsz)
      have hsz04 := hb04.size
      have hr34 : Ytdlcnpjdloinnaa.RLs w4 w4.heap.size A3 (ents L) := (HR3.out.below hb4).more hsz4
      have HR34 := Lib.hid hr34
      have HR4 := Lib.hid hr4
      clear hr4 hr34 HR3 hb4 hsz4 hb hsz
      go_loopg [7, 9] G.length (fun k v i wr => ∃ j : Nat, k = G.length - j ∧ j ≤ G.length ∧ i = .int .i64 j ∧ OHs wr w4.heap.size v (G.take j) ∧ Below w4.heap.size w4 wr)
      case atStart => exact ⟨0, rfl, Nat.zero_le _, rfl, World.ownsRow_nil _ _ _ _, Below.refl _ _⟩
      case round =>
        obtain ⟨j, hk, hj, rfl, hown, hb⟩ := hrel
        have HK := Lib.hid hk
        clear hk
        have hsz := hb.size
        by_cases hlt : j < G.length
        · obtain ⟨n, hn, hsrc, hfil⟩ := HS.out G[j] (List.getElem_mem hlt)
          have HSR := Lib.hid hsrc
          have HFI := Lib.hid hfil
          clear hsrc hfil
          have hgj : (G.map Hit.ent)[j]'(by simpa using hlt) = (G[j]).ent := by simp
          obtain ⟨b8, off8, rfl, hb8, d0, d1, d2⟩ := HR4.out.at_ (i := j) (by simpa using hlt)
          rw [hgj] at d0 d1 d2
          have c0 : w4.cell? ⟨b8, off8 + j * 3, none⟩ = some (.string (G[j]).word) := d0
          have d0' := ((bcell hb).1 _ _ hb8).trans c0
          clear d0 d1 d2 hgj
          have hst : G.take (j + 1) = G.take j ++ [G[j]] := List.take_succ_eq_append_getElem hlt
          have HST := Lib.hid hst
          clear hst
          obtain ⟨b, off, rfl, hlb, hcs⟩ := h (by omega)
          obtain ⟨An, cn, h0, hcn, hrn⟩ := hcs n L[n] (List.getElem?_eq_getElem hn)
          have hln := HLS.out L[n] (List.getElem_mem hn)
          have hGl : (G.take j).length ≤ 120 := by simp; omega
          have hfl : ∀ m, (((L[n]).take m).filter (fun h => h.word.toList == (G[j]).word.toList)).length ≤ 20 := fun m => Nat.le_trans (List.length_filter_le _ _) (by simp; omega)
          have HFLL := Lib.hid hfl
          clear hfl
          generalize G[j] = g at *
          generalize L[n] = ln at *
          generalize G.take j = GJ at *
          have hnL : (n : Int) < (L.length : Int) := by omega
          obtain ⟨W2, hW2⟩ : ∃ W2, W2 = wr := ⟨_, rfl⟩
          subst hW2
          have h00 := ((bcell (hb04.trans (hb.mono hsz04))).1 _ _ hlb).trans h0
          go_wp2_with (go_at_call 22; refine (src22 (ents L) A3 c3 n g.word W2 (by first | rfl | exact HEN.out) (by have := HEN.out; omega) HEL.out ((HR34.out.below hb).more hsz) HSR.out).mono ?_; rintro e w5 ⟨rfl, hb5⟩; have hsz5 := hb5.size)
          have hb45 := hb.trans (hb5.mono hsz)
          have hown5 := own_below hown hb5
          have hszz := hb45.size
          clear hown
          go_loopg [7, 12] ln.length (fun k v i wr => ∃ m : Nat, k = ln.length - m ∧ m ≤ ln.length ∧ i = .int .i64 m ∧ OHs wr w4.heap.size v (GJ ++ (ln.take m).filter (fun h => h.word.toList == g.word.toList)) ∧ Below w4.heap.size w4 wr)
          case atStart => exact ⟨0, rfl, Nat.zero_le _, rfl, by simpa using hown5, hb45⟩
          case round =>
            obtain ⟨m, hkm, hm, rfl, hownm, hbm⟩ := hrel
            have HKM := Lib.hid hkm
            clear hkm
            have hszm := hbm.size
            have hb2 := hb04.trans (hbm.mono hsz04)
            have h0' := ((bcell hb2).1 _ _ hlb).trans h0
            have d0'' := ((bcell hbm).1 _ _ hb8).trans c0
            by_cases hltm : m < ln.length
            · obtain ⟨b', off', rfl, hbb', d1, d2, d3, d4⟩ := (hrn.below hb2).at_ hltm
              have hbl := HFLL.out m
              have HFM := Lib.hid (show GJ.length + ((ln.take m).filter (fun h => h.word.toList == g.word.toList)).length ≤ 1000 by omega)
              have hsl : ln.take (m + 1) = ln.take m ++ [ln[m]] := List.take_succ_eq_append_getElem hltm
              have HSL := Lib.hid hsl
              clear hsl hbl
              generalize hX : (ln.take m).filter (fun h => h.word.toList == g.word.toList) = X at *
              have HX := Lib.hid hX
              clear hX
              go_wp2
              go_quiet (fail)
              have hq := below_right (Below.refl wr.heap.size wr) nq
              have hownq := own_below hownm hq
              have hsq := hq.size
              have hbq := hbm.trans (hq.mono hszm)
              clear hownm
              go_wp2_with (at_builtin; refine wpList_append_hit rfl (.tmp 85) (.tmp 93) rfl w4.heap.size _ _ rfl hownq _ rfl (by simp) (by have := HFM.out; simp; omega) (by omega) ?_; intro v' w' hown' hg' hb'; clear hg')
              · have ht : (ln[m].word.toList == g.word.toList) = true := by assumption
                go_roundg (ln.length - (m + 1))
                case rel => exact ⟨m + 1, rfl, by omega, by go_num, by rw [HSL.out, List.filter_append, HX.out, ← List.append_assoc]; simpa [ht] using hown', hbq.trans hb'⟩
                case measure => rw [HKM.out]; omega
              · have ht : (ln[m].word.toList == g.word.toList) = false := by assumption
                go_roundg (ln.length - (m + 1))
                case rel => exact ⟨m + 1, rfl, by omega, by go_num, by rw [HSL.out, List.filter_append, HX.out, List.filter_cons_of_neg (by simp [ht]), List.filter_nil, List.append_nil]; exact hownq, hbq⟩
                case measure => rw [HKM.out]; omega
            · have e : ln.take m = ln := List.take_of_length_le (by omega)
              rw [e, HFI.out] at hownm
              go_wp2
              go_roundg (G.length - (j + 1))
              case rel => exact ⟨j + 1, rfl, by omega, by go_num, by rw [HST.out]; exact hownm, hbm⟩
              case measure => rw [HK.out]; omega
        · have e : G.take j = G := List.take_of_length_le (by omega)
          rw [e] at hown
          go_wp2
          go_ret
          exact ret_hs hown (hb04.trans (hb.mono hsz04))
end Go.Proofs.Ytdlcnpjdloinnaa.H
