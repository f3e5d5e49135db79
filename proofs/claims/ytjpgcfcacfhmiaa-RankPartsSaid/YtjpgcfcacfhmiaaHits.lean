/- Hits of drafts (ref21.Hits): some hits, no more than are asked for. -/
import Derived.Test.YtjpgcfcacfhmiaaDraft
import Derived.Lib.Hide
namespace Go.Proofs.Ytjpgcfcacfhmiaa
open Go.RowKit
set_option linter.unusedSimpArgs false
set_option linter.unusedVariables false
set_option linter.unnecessarySimpa false
set_option maxHeartbeats 4000000 in
set_option maxRecDepth 100000 in
theorem hits9 (ds : List (Dra × Int)) (A : Option Addr) (c most : Nat) (w : World) (hl : ds.length ≤ 9223372036854775807) (hm : most ≤ 1000) (h : RDs w w.heap.size A ds) :
    Calls Try.prog 9 #[.slice A ds.length c, .int .i64 most] w (fun e w' => ∃ (hs : List Hit) (v : Value), hs.length ≤ most ∧ e = .returned v ∧ OHs w' w.heap.size v hs ∧ Below w.heap.size w w') := by
  go_enter Try.func9, Try.ntmps9
  go_wp2
  have HR := Lib.hid h
  clear h
  go_loopg [5, 6] most (fun k v i wr => ∃ (j : Nat) (hs : List Hit), k = most - j ∧ j ≤ ds.length ∧ j ≤ most ∧ hs.length ≤ j ∧ i = .int .i64 j ∧ OHs wr w.heap.size v hs ∧ Below w.heap.size w wr)
  case atStart => exact ⟨0, [], rfl, Nat.zero_le _, Nat.zero_le _, Nat.le_refl _, rfl, World.ownsRow_nil _ _ _ _, Below.refl _ _⟩
  case round =>
    obtain ⟨j, hs, hk, hj, hjm, hhs, rfl, hown, hb⟩ := hrel
    have HK := Lib.hid hk
    clear hk
    by_cases hlt : j < ds.length
    · by_cases hm9 : j < most
      · obtain ⟨b, off, Ai, ci, rfl, hb0, h0, h1, h2, h3, h4, h5⟩ := HR.out.at_ hb hlt
        clear HR
        have hlti : (j : Int) < (ds.length : Int) := by omega
        have hmi : (j : Int) < (most : Int) := by omega
        generalize ds[j] = d at *
        have hsz := hb.size
        have hde := draftEntry_any Ai ci d.1 wr h5 (h4.more hsz)
        have HDE := Lib.hid hde
        have HO := Lib.hid hown
        clear hde hown h4
        obtain ⟨ln, hln⟩ : ∃ ln, d.1.letters.length = ln := ⟨_, rfl⟩
        rw [hln] at h0 h5
        have HDE' : Hid (Calls Try.prog 22 #[.agg #[.slice Ai ln ci, .int .u32 d.1.weight, .bool d.1.gone]] wr fun e w' => e = .returned d.1.ent.agg ∧ Below wr.heap.size wr w') := Lib.hid (by have := HDE.out; rw [hln] at this; exact this)
        clear HDE hln
        unfold Ent.agg at HDE'
        generalize d.1.ent = en at *
        generalize d.1.weight = dw at *
        generalize d.1.gone = dg at *
        generalize d.2 = dd at *
        clear d
        go_upto_region 6 with (go_at_call 22; refine HDE'.out.mono ?_; rintro e w1 ⟨rfl, hb1⟩)
        go_cut [7] (fun v7 wx => ∃ (bx : Nat) (wt : Int), v7 = .pointer (some ⟨bx, 0, none⟩) ∧ wr.heap.size ≤ bx ∧ wx.heap[bx]? = some (.cells #[.string en.word, .int .u32 wt, .bool en.gone] 24 (0, 0)) ∧ Below wr.heap.size wr wx)
        case first =>
          have hs1 := hb1.size
          go_wp2
          go_meet
          case rel => exact ⟨w1.heap.size, _, rfl, hs1, heap_alloc_new _ _, hb1.alloc hs1 _⟩
        case rest =>
          obtain ⟨bx, wt, rfl, hbx, hbk, hbw⟩ := hcut
          obtain ⟨c0, c1, c2⟩ := box3_cells hbk
          have hbxl := (Array.getElem?_eq_some_iff.1 hbk).1
          have k := (bcell hbw).1
          have d3 := (k b (off + j * 4 + 3) (by omega)).trans h3
          have hwc := hbw.size
          have hox := own_below HO.out hbw
          obtain ⟨AJ, cJ, rfl, hcJ, hrJ⟩ := OHs.form hox
          have HOX := Lib.hid hox
          clear k h0 h1 h2 h3 hox hrJ hbk
          have hba : ∀ o, Below wc.heap.size wc (wc.alloc o).drew := fun o => ((Below.refl _ _).alloc (Nat.le_refl _) o).drew
          have bw := hb.trans (hbw.mono hsz)
          have hle : (hs.length : Int) ≤ 1000 := by omega
          go_wp2
          go_region_law (refine step_append_hit rfl _ _ rfl w.heap.size (.slice AJ hs.length cJ) hs ⟨_, _, _, _⟩ rfl (by with_reducible exact own_below HOX.out (hba _)) wc.heap.size rfl (by exact heap_alloc_new wc _) (by omega) (by simp; omega) ?_; intro v2 w2 hown2 hg2 hb2)
          all_goals
            go_wp2
            have hq2 := bw.trans (((hba _).mono bw.size).trans hb2)
            have HQ2 := Lib.hid hq2
            have HO2 := Lib.hid hown2
            clear hq2 hown2
            go_roundg (most - (j + 1))
            case rel => exact ⟨j + 1, _, rfl, by omega, by omega, by simp; omega, by go_num, HO2.out, HQ2.out⟩
            case measure => rw [HK.out]; omega
      · go_wp2
        go_ret
        exact ⟨hs, _, by omega, rfl, hown, hb⟩
    · go_wp2
      go_ret
      exact ⟨hs, _, by omega, rfl, hown, hb⟩
end Go.Proofs.Ytjpgcfcacfhmiaa
