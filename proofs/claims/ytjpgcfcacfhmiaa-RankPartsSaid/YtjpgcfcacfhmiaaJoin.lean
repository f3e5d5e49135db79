/- rank.Join: the first ones of ranked lists. -/
import Derived.Test.YtjpgcfcacfhmiaaJoinP
import Derived.Test.YtjpgcfcacfhmiaaStep
namespace Go.Proofs.Ytjpgcfcacfhmiaa
open Go.RowKit
set_option linter.unusedSimpArgs false
set_option linter.unusedVariables false
set_option linter.unnecessarySimpa false
theorem made_eq (n : Nat) : madeCells #[Value.int .i64 0] n = ((List.replicate n 0).map fun p : Nat => Value.int .i64 (p : Int)).toArray := by
  apply Array.toList_inj.1
  rw [toList_madeCells_one]
  simp
theorem info3 : (Try.prog.info? 3).map (fun i => (i.zero, i.size, i.bytes)) = some (some (.int .i64 0), 1, 8) := by kernel_rfl
theorem make66 (n : Nat) (hn : n ≤ 1000000) (w : World) : (Instr.makeSlice 66 (.int .i64 (n : Int)) (.int .i64 (n : Int))).run Try.prog w = .ok (.slice (some ⟨w.heap.size, 0, none⟩) n n) (w.alloc (.cells ((List.replicate n 0).map fun p : Nat => Value.int .i64 (p : Int)).toArray 3)) := by
  obtain ⟨i0, hi, hz0, hz1, hz2⟩ := info_parts info3
  have := run_make (P := Try.prog) w 66 3 i0 _ Try.underlying66 hi hz0 .i64 .i64 n n (by omega) (by omega) (by rw [hz2]; omega) (by omega)
  rw [hz1] at this
  simp only [Int.toNat_natCast, Nat.mul_one] at this
  rw [show Value.cells (.int .i64 0) = #[Value.int .i64 0] from rfl, made_eq] at this
  exact this
theorem AtRow.set {w : World} {g : Nat} {ps : List Nat} (h : AtRow w g ps) (n p : Nat) : AtRow (w.setCell ⟨g, n, none⟩ (.int .i64 (p : Int))) g (ps.set n p) := by
  have := set_block (i := n) h (.int .i64 (p : Int))
  unfold AtRow
  rw [this]
  simp [List.map_set]
theorem AtRow.inc {w : World} {g : Nat} {ps : List Nat} (h : AtRow w g ps) (n p : Nat) : AtRow (w.setCell ⟨g, n, none⟩ (.int .i64 ((p : Int) + 1))) g (ps.set n (p + 1)) := by
  have := h.set n (p + 1)
  simpa using this
theorem len_flatten {L : List (List Hit)} {m : Nat} (hm : m < L.length) : (L.getD m []).length ≤ L.flatten.length := by
  have e : L.getD m [] = L[m] := by simp [hm]
  rw [e]
  exact (List.sublist_flatten_of_mem (List.getElem_mem hm)).length_le
theorem AtRow.frozen {w : World} {g : Nat} {ps : List Nat} (h : AtRow w g ps) (i : Nat) : w.frozen? ⟨g, i, none⟩ = false := by
  unfold AtRow at h
  simp [World.frozen?, h]
set_option maxHeartbeats 4000000 in
set_option maxRecDepth 100000 in
theorem join20 (n : Int) (L : List (List Hit)) (A : Option Addr) (c : Nat) (w : World) (hl : L.length ≤ 1000000) (hf : L.flatten.length ≤ 1000000) (hs : ∀ l ∈ L, Sorted l) (hR : RLs w w.heap.size A L) :
    Calls Try.prog 20 #[.int .i64 n, .slice A L.length c] w (RetHs w (topH n L.flatten)) := by
  have hmk := make66 L.length hl
  have HS := Lib.hid hs
  clear hs
  obtain ⟨ps0, hps0⟩ : ∃ ps0, List.replicate L.length 0 = ps0 := ⟨_, rfl⟩
  have hr0 : rests L ps0 = L.flatten := by rw [← hps0]; exact rests_zero L
  have hpl0 : ps0.length = L.length := by rw [← hps0]; simp
  have HR0 := Lib.hid hr0
  have HPL0 := Lib.hid hpl0
  rw [hps0] at hmk
  clear hps0 hr0 hpl0
  obtain ⟨MC, hMC⟩ : ∃ MC, (ps0.map fun p : Nat => Value.int .i64 (p : Int)).toArray = MC := ⟨_, rfl⟩
  rw [hMC] at hmk
  have HMC := Lib.hid hMC
  clear hMC
  have hq0 : Box1 (((w.alloc (.cells #[.slice A L.length c] 46)).alloc (.cells MC 3)).alloc (.cells #[.slice (some ⟨w.heap.size + 1, 0, none⟩) L.length L.length] 66)) (w.heap.size + 2) 66 (.slice (some ⟨w.heap.size + 1, 0, none⟩) L.length L.length) := by
    have := heap_alloc_new ((w.alloc (.cells #[.slice A L.length c] 46)).alloc (.cells MC 3)) (.cells #[.slice (some ⟨w.heap.size + 1, 0, none⟩) L.length L.length] 66)
    rw [World.size_alloc, World.size_alloc] at this
    exact this
  have hg0 : AtRow (((w.alloc (.cells #[.slice A L.length c] 46)).alloc (.cells MC 3)).alloc (.cells #[.slice (some ⟨w.heap.size + 1, 0, none⟩) L.length L.length] 66)) (w.heap.size + 1) ps0 := by
    have h1 := heap_alloc_new (w.alloc (.cells #[.slice A L.length c] 46)) (.cells MC 3)
    rw [World.size_alloc] at h1
    unfold AtRow
    rw [HMC.out]
    exact (Below.heap_alloc _ _ _ (by simp)).trans h1
  have hp0 : Box1 (((w.alloc (.cells #[.slice A L.length c] 46)).alloc (.cells MC 3)).alloc (.cells #[.slice (some ⟨w.heap.size + 1, 0, none⟩) L.length L.length] 66)) w.heap.size 46 (.slice A L.length c) :=
    (Below.heap_alloc _ _ _ (by simp; omega)).trans ((Below.heap_alloc _ _ _ (by simp)).trans (heap_alloc_new w _))
  have hb0 : Below w.heap.size w (((w.alloc (.cells #[.slice A L.length c] 46)).alloc (.cells MC 3)).alloc (.cells #[.slice (some ⟨w.heap.size + 1, 0, none⟩) L.length L.length] 66)) := (((Below.refl _ _).alloc (Nat.le_refl _) _).alloc (by simp) _).alloc (by simp; omega) _
  go_enter Try.func20, Try.ntmps20
  go_wp2
  generalize ((w.alloc (.cells #[.slice A L.length c] 46)).alloc (.cells MC 3)).alloc (.cells #[.slice (some ⟨w.heap.size + 1, 0, none⟩) L.length L.length] 66) = W at *
  generalize hq : w.heap.size + 2 = q at *
  generalize hg : w.heap.size + 1 = g at *
  go_loopg [4] (n.toNat + 1) (fun k v4 wr => ∃ (J : List Hit) (ps : List Nat), k = n.toNat + 1 - J.length ∧ J.length ≤ n.toNat ∧ ps.length = L.length ∧ J ++ sortH (rests L ps) = sortH L.flatten ∧ OHs wr (q + 1) v4 J ∧ Box1 wr w.heap.size 46 (.slice A L.length c) ∧ Box1 wr q 66 (.slice (some ⟨g, 0, none⟩) L.length L.length) ∧ AtRow wr g ps ∧ Below w.heap.size w wr)
  case atStart => exact ⟨[], ps0, rfl, Nat.zero_le _, HPL0.out, by rw [HR0.out]; rfl, World.ownsRow_nil _ _ _ _, hp0, hq0, hg0, hb0⟩
  case round =>
    obtain ⟨J, ps, hk, hJn, hpl, hJ, hown, hbp, hbq, hag, hb⟩ := hrel
    have HK := Lib.hid hk
    have HJ := Lib.hid hJ
    have HPL := Lib.hid hpl
    have hlen := join_len hJ
    have hJl : J.length ≤ 1000000 := by omega
    clear hk hJ hpl hlen
    have hsz := hb.size
    obtain ⟨AJ, cJ, rfl, hcJ, hrJ⟩ := OHs.form hown
    have HOW := Lib.hid hown
    clear hown
    by_cases hc : (J.length : Int) < n
    · have hnx := next29 L ps A c w.heap.size q g L.length wr hl HPL.out rfl hbp.cell hbq.cell hbp.lt hbq.lt ((hR.below hb).more hsz) hag
      have HNX := Lib.hid hnx
      clear hnx
      have cp0 := hbp.cell
      have cq0 := hbq.cell
      have HBP := Lib.hid hbp
      have HBQ := Lib.hid hbq
      have HAG := Lib.hid hag
      clear hbp hbq hag
      go_upto_region 4 with fail
      go_cut [7] (fun v7 wx => ∃ i : Int, v7 = .int .i64 i ∧ BestTo L ps L.length i ∧ Below wr.heap.size wr wx)
      case first =>
        go_wp2_with (first | (go_at_call 29; refine HNX.out.mono ?_; rintro e w1 ⟨⟨i, rfl, hbest⟩, hb1⟩))
        go_meet
        case rel => exact ⟨i, rfl, hbest, hb1⟩
      case rest =>
        obtain ⟨i, rfl, hbest, hb1⟩ := hcut
        have hk1 := (bcell hb1).1
        have bw := hb.trans (hb1.mono hsz)
        have hs1 := hb1.size
        have hbp1 : Box1 wc w.heap.size 46 (.slice A L.length c) := (hb1.block _ HBP.out.lt).trans HBP.out
        have hbq1 : Box1 wc q 66 (.slice (some ⟨g, 0, none⟩) L.length L.length) := (hb1.block _ HBQ.out.lt).trans HBQ.out
        have hag1 : AtRow wc g ps := (hb1.block _ (show g < wr.heap.size by have := HBQ.out.lt; omega)).trans HAG.out
        have hown1 := own_below HOW.out hb1
        rcases hbest with ⟨rfl, hnone⟩ | ⟨m, x, rfl, hmL, hx, hmin⟩
        · have hfin := join_end HJ.out hJn (.inr hnone)
          have HF := Lib.hid hfin
          obtain ⟨AJ', cJ', hv', hcJ', hrJ'⟩ := OHs.form hown1
          injection hv' with e1 e2 e3
          subst e1
          subst e3
          clear hfin hk1 hnone
          go_wp2
          go_ret
          rw [← HF.out]
          exact ⟨AJ, cJ, rfl, hcJ, hrJ', bw⟩
        · obtain ⟨b, off, Am, cm, rfl, hbw, ccm, hrm⟩ := hR.at_ hmL
          have hmLi : (m : Int) < (L.length : Int) := by omega
          have hm0 : (0 : Int) ≤ (m : Int) := by omega
          have cml := (bw.cell (p := ⟨b, off + m, none⟩) hbw).trans ccm
          have hrm' := hrm.below bw
          have cma := hag1.at_ (i := m) (by rw [HPL.out]; exact hmL)
          have hlf := len_flatten hmL
          have hst := join_step HS.out HPL.out hmL hx hmin HJ.out
          have hdn : hd L ps m = (L.getD m [])[ps.getD m 0]? := rfl
          rw [hx] at hdn
          obtain ⟨lm, hlm⟩ : ∃ lm, L.getD m [] = lm := ⟨_, rfl⟩
          obtain ⟨pm, hpm⟩ : ∃ pm, ps.getD m 0 = pm := ⟨_, rfl⟩
          rw [hlm, hpm] at hdn
          rw [hlm] at cml hrm' hlf
          rw [hpm] at cma hst
          have HST := Lib.hid hst
          clear hlm hpm hrm ccm hst hmin
          have hexn : pm < lm.length := (List.getElem?_eq_some_iff.1 hdn.symm).1
          have hexni : (pm : Int) < (lm.length : Int) := by omega
          have hpmi : (pm : Int) ≤ 1000000 := by omega
          obtain ⟨bn, on, rfl, hbn, e0, e1, e2, e3⟩ := hrm'.at_ hexn
          have hxe : lm[pm] = x := (List.getElem?_eq_some_iff.1 hdn.symm).2
          rw [hxe] at e0 e1 e2 e3
          have cp1 := hbp1.cell
          have cq1 := hbq1.cell
          have hqlt := hbq1.lt
          have hplt := hbp1.lt
          have hglt : g < wc.heap.size := by omega
          have HP1 := Lib.hid hbp1
          have HQ1 := Lib.hid hbq1
          have HA1 := Lib.hid hag1
          have HO1 := Lib.hid hown1
          have HX := Lib.hid hx
          have hba : Below wc.heap.size wc (wc.alloc (.cells #[.string x.word, .int .u32 x.weight, .bool x.gone, .int .i64 x.dist] 26)).drew := ((Below.refl _ _).alloc (Nat.le_refl _) _).drew
          clear hk1 hbp1 hbq1 hag1 hown1 hx hdn hxe
          go_wp2
          go_region_law (refine step_append_hit rfl _ _ rfl (q + 1) (.slice AJ J.length cJ) J x rfl (by with_reducible exact own_below HO1.out hba) wc.heap.size rfl (by exact heap_alloc_new wc _) (by omega) (by simp; omega) ?_; intro v2 w2 hown2 hg2 hb2; have hq2 : Box1 w2 q 66 (.slice (some ⟨g, 0, none⟩) L.length L.length) := (hb2.block q (by omega)).trans ((hba.block q hqlt).trans HQ1.out); have hp2 : Box1 w2 w.heap.size 46 (.slice (some ⟨b, off, none⟩) L.length c) := (hb2.block _ (by omega)).trans ((hba.block _ hplt).trans HP1.out); have ha2 : AtRow w2 g ps := (hb2.block g (by omega)).trans ((hba.block g hglt).trans HA1.out); have cq2 := hq2.cell; have ca2 := (hb2.cell (p := ⟨g, m, none⟩) (show g < q + 1 by omega)).trans ((hba.cell (p := ⟨g, m, none⟩) hglt).trans cma); have fa2 := ha2.frozen; have HQ2 := Lib.hid hq2; have HP2 := Lib.hid hp2; have HA2 := Lib.hid ha2; have HO2 := Lib.hid hown2; have bw2 := (bw.trans (hba.mono (by omega))).trans (hb2.mono (by omega)); clear hq2 hp2 ha2 hown2)
          all_goals
            go_wp2
            go_roundg (n.toNat + 1 - (J.length + 1))
            case rel =>
              refine ⟨J ++ [x], ps.set m (pm + 1), by simp, by simp; omega, by simp [HPL.out], HST.out, ?_, ?_, ?_, HA2.out.inc m pm, bw2.setCell (p := ⟨g, m, none⟩) (show w.heap.size ≤ g by omega) _⟩
              · exact ownsRow_setCell_below HO2.out (show g < q + 1 by omega) _
              · exact (Below.heap_setCell _ _ _ _ (show w.heap.size ≠ g by omega)).trans HP2.out
              · exact (Below.heap_setCell _ _ _ _ (show q ≠ g by omega)).trans HQ2.out
            case measure => rw [HK.out]; omega
    · have hfin := join_end HJ.out hJn (.inl hc)
      have HF := Lib.hid hfin
      clear hfin
      have hci : n ≤ (J.length : Int) := by omega
      go_wp2
      go_ret
      rw [← HF.out]
      exact ⟨AJ, cJ, rfl, hcJ, hrJ, hb⟩
end Go.Proofs.Ytjpgcfcacfhmiaa
