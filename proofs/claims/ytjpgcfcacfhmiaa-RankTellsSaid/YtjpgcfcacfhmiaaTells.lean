/- RankTells' law, walked: hits are ranked, the first ones told, and how many are ahead of one, as the document says. -/
import Derived.Test.YtjpgcfcacfhmiaaJoins
import Derived.Test.YtjpgcfcacfhmiaaLits
namespace Go.Proofs.Ytjpgcfcacfhmiaa
open Go.RowKit
set_option linter.unusedSimpArgs false
set_option linter.unusedVariables false
set_option linter.unnecessarySimpa false
theorem index36 (a b : Value) (i : Nat) (hi : i < 2) (w : World) : (Instr.index 36 (.agg #[a, b]) (.int .i64 i)).run Try.prog w = .ok (([a, b] : List Value).getD i undef) w := by
  rcases (show i = 0 ∨ i = 1 by omega) with rfl | rfl
  all_goals
    simp [Instr.index, run_underlying Try.underlying36, asIntOf, go_sem]
set_option maxHeartbeats 4000000 in
set_option maxRecDepth 100000 in
theorem tells4 (es : List Hit) (ds : List (Dra × Int)) (A B : Option Addr) (c d : Nat) (n : Int) (w : World) (hl : es.length ≤ 9223372036854775807) (hc : es.length ≤ c) (hc2 : c ≤ 9223372036854775807) (hd : ds.length ≤ 9223372036854775807) (h : RHs w w.heap.size A es) (h' : RDs w w.heap.size B ds) :
    Calls Try.prog 4 #[.slice A es.length c, .slice B ds.length d, .int .i64 n] w fun e w' => e = .returned (.bool true) ∧ Below w.heap.size w w' := by
  have HR := Lib.hid h
  have HD := Lib.hid h'
  clear h h'
  go_enter Try.func4, Try.ntmps4
  go_upto_region 1 with (fail)
  go_cut [0] (fun v0 wx => ∃ es2 : List Hit, es2.length ≤ 30 ∧ v0 = .slice A es2.length c ∧ RHs wx wx.heap.size A es2 ∧ w = wx)
  case first =>
    go_wp2
    go_meet
    exact ⟨es.take 30, by simp; omega, by rw [show (es.take 30).length = (min (es.length : Int) 30).toNat by rw [List.length_take]; omega], HR.out.take 30, rfl⟩
  case rest =>
    obtain ⟨es2, hl2, rfl, hr2, rfl⟩ := hcut
    clear HR hl hc hc2
    have HR2 := Lib.hid hr2
    have HW := Lib.hid works8
    clear hr2
    go_wp2_with (go_at_call 9; refine (hits9 ds B d 60 _ hd (by decide) HD.out).mono ?_; rintro e w1 ⟨hs, v, hsl, rfl, ho1, hb1⟩; obtain ⟨AJ, cJ, rfl, hcJ, hrJ⟩ := OHs.form ho1)
    have hs1 := hb1.size
    have hr21 : RHs w1 w1.heap.size A es2 := (HR2.out.below hb1).more hs1
    have HR21 := Lib.hid hr21
    have HRJ := Lib.hid hrJ
    clear hr21 hrJ ho1 HR2
    go_loopg [26] 2 (fun k v26 wr => ∃ j : Nat, k = 2 - j ∧ j ≤ 2 ∧ v26 = .int .i64 j ∧ Below w1.heap.size w1 wr)
    case atStart => exact ⟨0, rfl, Nat.zero_le _, rfl, Below.refl _ _⟩
    case round =>
      obtain ⟨j, hk, hj2, rfl, hbr⟩ := hrel
      have HK := Lib.hid hk
      clear hk
      have hsr := hbr.size
      by_cases h2 : j < 2
      · go_upto_region 4 with (fail)
        go_cut [8] (fun v8 wx => ∃ (X : List Hit) (AX : Option Addr) (cX : Nat), v8 = .slice AX X.length cX ∧ X.length ≤ 60 ∧ RHs wx wx.heap.size AX X ∧ wr = wx)
        case first =>
          have hrA : RHs wr wr.heap.size A es2 := (HR21.out.below hbr).more hsr
          have hrB : RHs wr wr.heap.size AJ hs := (HRJ.out.below hbr).more hsr
          have HRA := Lib.hid hrA
          have HRB := Lib.hid hrB
          clear hrA hrB
          rcases (show j = 0 ∨ j = 1 by omega) with rfl | rfl
          · have hi0 := index36 (.slice A es2.length c) (.slice AJ hs.length cJ) 0 (by omega) wr
            simp at hi0
            go_wp2
            go_meet
            exact ⟨es2, A, c, rfl, by omega, HRA.out, rfl⟩
          · have hi0 := index36 (.slice A es2.length c) (.slice AJ hs.length cJ) 1 (by omega) wr
            simp at hi0
            go_wp2
            go_meet
            exact ⟨hs, AJ, cJ, rfl, by omega, HRB.out, rfl⟩
        case rest =>
          obtain ⟨X, AX, cX, rfl, hX, hrX, rfl⟩ := hcut
          have h2i : (j : Int) < 2 := by omega
          clear HR21 HRJ
          have HRX := Lib.hid hrX
          clear hrX
          have hsX : (sortH X).length ≤ 1000000 := by rw [sortH_length]; omega
          have HSX := Lib.hid hsX
          clear hsX
          go_upto_block 2 with (first
            | (at_builtin; refine wpList_append_hits rfl _ _ rfl wr.heap.size _ [] X rfl ⟨rfl, .inr ⟨wr.heap.size, 0, #[], rfl, Nat.le_refl _, heap_alloc_new _ _, Nat.le_refl _, by decide, rfl, rfl⟩⟩ AX _ cX rfl rfl (HRX.out.up _) (by simp; omega) (by simp) ?_; intro v9 w2 hown2 hg2 hb2; rw [List.nil_append] at hown2; obtain ⟨A9, c9, rfl, hc9, hr9⟩ := OHs.form hown2; have hbw2 := ((Below.refl wr.heap.size wr).alloc (Nat.le_refl _) (.cells #[] 26)).trans hb2; have HR9 := Lib.hid hr9; clear hr9 hown2 hg2 hb2)
            | (go_at_call 11; refine (sort11 X AX cX w2 (by omega) ((HRX.out.below hbw2).more hbw2.size)).mono ?_; rintro e w3 ⟨A3, c3, rfl, hc3, hr3, hb3⟩; have hbw3 := hbw2.trans (hb3.mono hbw2.size); have HR3 := Lib.hid hr3; clear hr3)
            | (go_at_call 14; refine (rsort14 X AX cX w3 (by omega) ((HRX.out.below hbw3).more hbw3.size)).mono ?_; rintro e w4 ⟨A4, c4, rfl, hc4, hr4, hb4⟩; have hbw4 := hbw3.trans (hb4.mono hbw3.size); have HR4 := Lib.hid hr4; clear hr4)
            | (go_at_call 13; refine (same13 (sortH X) A3 A4 c3 c4 w4 HSX.out ((HR3.out.below hb4).more hb4.size) HR4.out).mono ?_; rintro e w5 ⟨rfl, hb5⟩; have hbw5 := hbw4.trans (hb5.mono hbw4.size)))
          have hr95 : RHs w5 w5.heap.size A9 X := (HR9.out.below (hb3.trans ((hb4.mono hb3.size).trans (hb5.mono (Nat.le_trans hb3.size hb4.size))))).any
          have hr5 : RHs w5 w5.heap.size AX X := (HRX.out.below hbw5).more hbw5.size
          have HR95 := Lib.hid hr95
          have HR5 := Lib.hid hr5
          clear hr95 hr5 HR9 HR3 HR4 hb3 hb4 hb5 hbw2 hbw3 hbw4 HRX HSX
          go_wp2
          go_loopg [44] 4 (fun k v44 wx => ∃ i : Nat, k = 4 - i ∧ i ≤ 4 ∧ v44 = .int .i64 i ∧ Below w5.heap.size w5 wx)
          case atStart => exact ⟨0, rfl, Nat.zero_le _, rfl, Below.refl _ _⟩
          case round =>
            obtain ⟨i, hki, hi4, rfl, hbi⟩ := hrel
            have HKI := Lib.hid hki
            clear hki
            have hri : RHs wr wr.heap.size AX X := (HR5.out.below hbi).more hbi.size
            have HRI := Lib.hid hri
            clear hri
            by_cases hi4' : i < 4
            · go_upto_region 10 with (fail)
              go_cut [11] (fun v11 wx => ∃ kk : Int, v11 = .int .i64 kk ∧ wr = wx)
              case first =>
                have hix := fun i (hi : i < 4) => index39 n (n.tmod 20) (X.length : Int) 1 i hi wr
                have hi0 := hix 0 (by omega)
                have hi1 := hix 1 (by omega)
                have hi2 := hix 2 (by omega)
                have hi3 := hix 3 (by omega)
                simp at hi0 hi1 hi2 hi3
                clear hix
                rcases (show i = 0 ∨ i = 1 ∨ i = 2 ∨ i = 3 by omega) with rfl | rfl | rfl | rfl
                all_goals
                  go_wp2
                  go_meet
                  exact ⟨_, rfl, rfl⟩
              case rest =>
                obtain ⟨kk, rfl, rfl⟩ := hcut
                have hi4i : (i : Int) < 4 := by omega
                have htl : (topH kk X).length ≤ 1000000 := by rw [topH_length]; omega
                have HT := Lib.hid htl
                clear htl
                obtain ⟨code, hcode⟩ : ∃ code : Int, (if kk < 0 then 2 else 0) = code := ⟨_, rfl⟩
                have HC := Lib.hid hcode
                clear hcode
                go_wp2_with (first
                  | (go_at_call 15; refine (top15 kk X AX cX wr (by omega) HRI.out).mono ?_; rintro e w6 ⟨A6, c6, rfl, hc6, hr6, hb6⟩; rw [HC.out]; have HR6 := Lib.hid hr6; clear hr6)
                  | (go_at_call 16; refine (rtop16 kk X AX cX w6 (by omega) ((HRI.out.below hb6).more hb6.size)).mono ?_; rintro e w7 ⟨A7, c7, rfl, hc7, hr7, hb7⟩; rw [HC.out]; have HR7 := Lib.hid hr7; clear hr7)
                  | (go_at_call 13; refine (same13 (topH kk X) A6 A7 c6 c7 w7 HT.out ((HR6.out.below hb7).more hb7.size) HR7.out).mono ?_; rintro e w8 ⟨rfl, hb8⟩))
                all_goals
                  have hbb := hbi.trans ((hb6.trans ((hb7.trans (hb8.mono hb7.size)).mono hb6.size)).mono hbi.size)
                  have HBB := Lib.hid hbb
                  clear hbb
                  go_roundg (4 - (i + 1))
                  case rel => exact ⟨i + 1, rfl, by omega, by go_num, HBB.out⟩
                  case measure => rw [HKI.out]; omega
            · have hi4i : ¬ (i : Int) < 4 := by omega
              go_wp2
              go_loopg [16] X.length (fun k v16 wx => ∃ q : Nat, k = X.length - q ∧ q ≤ X.length ∧ v16 = .int .i64 q ∧ Below w5.heap.size w5 wx)
              case atStart => exact ⟨0, rfl, Nat.zero_le _, rfl, hbi⟩
              case round =>
                obtain ⟨q, hkq, hq, rfl, hbq⟩ := hrel
                have HKQ := Lib.hid hkq
                clear hkq HRI hbi
                have hrq : RHs wr wr.heap.size AX X := (HR5.out.below hbq).more hbq.size
                by_cases hqx : q < X.length
                · obtain ⟨b, off, rfl, hb0, c0, c1, c2, c3⟩ := hrq.at_ hqx
                  obtain ⟨b', off', e', hb0', d0, d1, d2, d3⟩ := hrq.at_ (i := 0) (by omega)
                  injection e' with e'
                  injection e' with e1 e2
                  subst e1
                  subst e2
                  have hqi : (q : Int) < (X.length : Int) := by omega
                  have h0i : (0 : Int) < (X.length : Int) := by omega
                  have h0n : 0 < X.length := by omega
                  have hne : X ≠ [] := List.ne_nil_of_length_pos h0n
                  rw [Nat.zero_mul, Nat.add_zero] at d0 d1 d2 d3
                  have HRQ := Lib.hid hrq
                  clear hrq
                  have hrq2 : ∀ w' : World, Below wr.heap.size wr w' → RHs w' w'.heap.size (some ⟨b, off, none⟩) X := fun w' hw => (HRQ.out.below hw).more hw.size
                  have HRQ2 := Lib.hid hrq2
                  clear hrq2
                  generalize X[q] = y at *
                  generalize X[0] = z at *
                  have mk : ∀ w' : World, Below wr.heap.size wr w' → (Below wr.heap.size wr w' ∧ w'.cell? ⟨b, off + q * 4, none⟩ = some (.string y.word) ∧ w'.cell? ⟨b, off + q * 4 + 1, none⟩ = some (.int .u32 y.weight) ∧ w'.cell? ⟨b, off + q * 4 + 2, none⟩ = some (.bool y.gone) ∧ w'.cell? ⟨b, off + q * 4 + 3, none⟩ = some (.int .i64 y.dist) ∧ w'.cell? ⟨b, off, none⟩ = some (.string z.word) ∧ w'.cell? ⟨b, off + 1, none⟩ = some (.int .u32 z.weight) ∧ w'.cell? ⟨b, off + 2, none⟩ = some (.bool z.gone) ∧ w'.cell? ⟨b, off + 3, none⟩ = some (.int .i64 z.dist)) := fun w' hw => by
                    have k := (bcell hw).1
                    exact ⟨hw, (k _ _ hb0).trans c0, (k _ _ hb0).trans c1, (k _ _ hb0).trans c2, (k _ _ hb0).trans c3, (k _ _ hb0).trans d0, (k _ _ hb0).trans d1, (k _ _ hb0).trans d2, (k _ _ hb0).trans d3⟩
                  have MK := Lib.hid mk
                  clear mk
                  obtain ⟨cnt, hcnt⟩ : ∃ cnt, X.countP (lessH · y) = cnt := ⟨_, rfl⟩
                  obtain ⟨lb, hlb⟩ : ∃ lb, lessH z y = lb := ⟨_, rfl⟩
                  have HCN := Lib.hid hcnt
                  have HLB := Lib.hid hlb
                  clear hcnt hlb
                  go_wp2
                  go_region_held3 (fun w' : World => Below wr.heap.size wr w' ∧ w'.cell? ⟨b, off + q * 4, none⟩ = some (.string y.word) ∧ w'.cell? ⟨b, off + q * 4 + 1, none⟩ = some (.int .u32 y.weight) ∧ w'.cell? ⟨b, off + q * 4 + 2, none⟩ = some (.bool y.gone) ∧ w'.cell? ⟨b, off + q * 4 + 3, none⟩ = some (.int .i64 y.dist) ∧ w'.cell? ⟨b, off, none⟩ = some (.string z.word) ∧ w'.cell? ⟨b, off + 1, none⟩ = some (.int .u32 z.weight) ∧ w'.cell? ⟨b, off + 2, none⟩ = some (.bool z.gone) ∧ w'.cell? ⟨b, off + 3, none⟩ = some (.int .i64 z.dist))
                    (with_reducible first | exact MK.out _ hcum | exact MK.out _ (Below.refl _ _).drew)
                    (first
                      | (go_at_call 17; refine (rank17 X (some ⟨b, off, none⟩) cX y _ (by omega) (HRQ2.out _ (by with_reducible first | exact hcum | exact (Below.refl _ _).drew))).mono ?_; rintro e wa ⟨rfl, hba⟩; rw [HCN.out]; first | (have hcum := keepL hcum hba) | (have hcum := keepL ((Below.refl _ _).drew : Below wr.heap.size wr wr.drew) hba))
                      | (go_at_call 18; refine (refRank18 X (some ⟨b, off, none⟩) cX y _ (by omega) (HRQ2.out _ (by with_reducible first | exact hcum | exact (Below.refl _ _).drew))).mono ?_; rintro e wa ⟨rfl, hba⟩; rw [HCN.out]; first | (have hcum := keepL hcum hba) | (have hcum := keepL ((Below.refl _ _).drew : Below wr.heap.size wr wr.drew) hba))
                      | (go_at_call 10; refine (less10 z y _).mono ?_; rintro e wa ⟨rfl, hba⟩; rw [HLB.out]; have hcum := keepL hcum hba)
                      | (go_at_call 19; refine (refLess19 z y _).mono ?_; rintro e wa ⟨rfl, hba⟩; rw [HLB.out]; have hcum := keepL hcum hba))
                  all_goals
                    have hbb := hbq.trans (hcum.mono hbq.size)
                    have HBB := Lib.hid hbb
                    clear hbb
                    go_wp2
                    go_roundg (X.length - (q + 1))
                    case rel => exact ⟨q + 1, rfl, by omega, by go_num, HBB.out⟩
                    case measure => rw [HKQ.out]; omega
                · have hqi : ¬ (q : Int) < (X.length : Int) := by omega
                  go_wp2_with (go_at_call 13; refine (same13 X A9 AX c9 cX wr (by omega) ((HR95.out.below hbq).more hbq.size) hrq).mono ?_; rintro e w6 ⟨rfl, hb6⟩)
                  have hbb := hbr.trans ((hbw5.trans ((hbq.trans (hb6.mono hbq.size)).mono hbw5.size)).mono hsr)
                  have HBB := Lib.hid hbb
                  clear hbb
                  go_roundg (2 - (j + 1))
                  case rel => exact ⟨j + 1, rfl, by omega, by go_num, HBB.out⟩
                  case measure => rw [HK.out]; omega
      · have h2i : ¬ (j : Int) < 2 := by omega
        go_wp2_with (go_at_call 8; refine (HW.out _).mono ?_; rintro e w2 ⟨rfl, hb2⟩)
        go_ret
        exact ⟨rfl, hb1.trans ((hbr.trans (hb2.mono hbr.size)).mono hs1)⟩
end Go.Proofs.Ytjpgcfcacfhmiaa
