/- law16: SegmentKnown. -/
import Derived.Test.YtcddnmhmcieebaaGreatDoorY25
import Derived.Test.YtcddnmhmcieebaaGreatDoorY16
import Derived.Test.YtcddnmhmcieebaaGreatDoorTools
import Derived.Test.YtcddnmhmcieebaaGreatDoorProg
import Derived.Test.YtcddnmhmcieebaaGreatDoorRows
import Derived.ProofKit
import Derived.Deep.Slices
import Derived.Deep.Fields
import Derived.OpenShut
import Derived.Below
import Derived.Test.YtcddnmhmcieebaaGreatDoorTie
import Derived.LaidMore
import Derived.Stop.Joined
namespace Go.Proofs.YtcddnmhmcieebaaGreatDoor
set_option maxHeartbeats 4000000
set_option maxRecDepth 100000
open Go.RowKit
set_option linter.unusedSimpArgs false
set_option linter.unusedVariables false
set_option linter.unnecessarySimpa false
namespace Dw
theorem known7 (w : World)  : Calls Tryz.prog 7 #[] w fun e w1 => e = .returned (.bool true) /\ Below w.heap.size w w1 := by
 refine Zn0 271 Tryz.func7 fun fr hf => ?_
 have hbt := Below.refl w.heap.size w
 refine Ze fun _ hK1 => ?_
 refine Zr [] hf ?_
 refine Zq0 hf ?_
 clear hf; intro fr1 hf
 refine Zs hK1 fun _ hK2 => ?_
 refine Ze fun _ hK3 => rg ?_
 have bB := hf.B3 36 37 38
 refine fp fun K Z => ?_
 go_simp
 go_at_call 8; refine (works8 w).mono ?_; rintro e w1 ⟨rfl, hb1⟩
 replace hbt := hbt.trans (hb1.mono hbt.size)
 try dsimp only
 apply Z.out; clear Z K
 iterate 3 refine Za ?_
 refine Fact.nil (Zq1 39 hf ?_)
 clear hf bB; intro fr1 hf s39
 refine Zx hK3 ?_
 refine Fact.cond_f s39 ?_
 refine wp_skip ?_
 refine Zs hK2 fun _ hK4 => ?_
 refine Zr [] hf ?_
 refine Zq1 1 hf ?_
 clear hf s39; intro fr1 hf s1
 refine Zt hK4 fun _ hK5 => ?_
 have bB := hf.B6 41 42 40 43 44 2
 refine Za ?_
 refine fp fun K Z => ?_
 go_simp
 go_at_call 22; refine (nilGet w1 ⟨#[97]⟩).mono ?_; rintro e w4 ⟨rfl, hb4⟩
 replace hbt := hbt.trans (hb4.mono hbt.size)
 try dsimp only
 apply Z.out; clear Z K
 iterate 6 refine Za ?_
 refine Fact.nil (Zq2 1 3 hf ?_)
 clear hf s1 bB; intro fr1 hf sS
 generalize hW4 : w4.alloc (.cells #[.string ⟨#[]⟩, .int .u32 0, .bool false] 64) = W4
 have hb4b : Below w4.heap.size w4 W4 := by rw [<- hW4]; exact (Below.refl _ _).alloc (Nat.le_refl _) _
 clear hW4
 replace hbt := hbt.trans (hb4b.mono hbt.size)
 refine Zs hK5 fun _ hK6 => ?_
 refine Zr [45, 4] hf ?_
 refine Zq3 1 3 4 hf ?_
 clear hf sS; intro fr1 hf sS
 generalize hW5 : W4.alloc (.cells #[.slice none 0 0, .bool true, .int .u64 0] 46) = W5
 obtain ⟨hb5, l0, l1, l2, -, -⟩ := box3 hW5
 clear hW5
 replace hbt := hbt.trans (hb5.mono hbt.size)
 obtain ⟨B4, hB4⟩ : ∃ x, W4.heap.size = x := ⟨_, rfl⟩
 obtain ⟨s1, s3, s4⟩ := sS
 rw [hB4] at s4 l0 l1 l2
 have hB45 : B4 < W5.heap.size := cell_lt0 l0
 have hwR := hbt.size
 refine Zt hK6 fun _ hK7 => ?_
 have bB := hf.B4 46 47 48 5
 refine Za ?_
 refine fp fun K Z => ?_
 go_simp
 generalize hW6 : W5.alloc (.cells #[.slice none 0 0, .bool true, .int .u64 0] 46) = W6
 obtain ⟨hsr, hb6, hz6⟩ := sr_one (fun _ => False) hW6
 clear hW6
 replace l0 := cL hb6 l0; replace l1 := cL hb6 l1; replace l2 := cL hb6 l2
 replace hbt := hbt.trans (hb6.mono hbt.size)
 apply Z.out; clear Z K
 iterate 3 refine Za ?_
 refine Fact.nil (Zq4 1 3 4 5 hf ?_)
 clear hf s1 s3 s4 bB; intro fr1 hf sS
 generalize hW7 : W6.alloc (.cells #[.slice (some ⟨W5.heap.size, 0, none⟩) 1 1, .int .u64 0] 38) = W7
 obtain ⟨hb7, hp5⟩ := box_row hW7
 clear hW7
 replace l0 := cL hb7 l0; replace l1 := cL hb7 l1; replace l2 := cL hb7 l2
 replace hbt := hbt.trans (hb7.mono hbt.size)
 replace hsr := hsr.later hb7
 rw [hz6] at hp5
 obtain ⟨R, hR⟩ : ∃ x, W5.heap.size = x := ⟨_, rfl⟩
 obtain ⟨s1, s3, s4, s5⟩ := sS
 rw [hR] at hsr hp5 hB45 s5 hwR
 obtain ⟨B5, hB5⟩ : ∃ x, R + 1 = x := ⟨_, rfl⟩
 rw [hB5] at s5 hp5
 have hR5 : R < B5 := by omega
 clear hz6 hR hB5
 refine Zs hK7 fun _ hK8 => ?_
 refine Ze fun _ hK9 => ?_
 refine Zr [] hf ?_
 refine Zq5 1 3 4 5 6 hf ?_
 clear hf s1 s3 s4 s5; intro fr1 hf sS
 refine Zx hK9 ?_
 refine wp_block ?_
 refine wp_loop_ghost (fun gk fr wr => ∃ (i : Nat) (v : Value) (l : List (Value × State)) (C : Nat -> Prop), gk = 256 - i /\ i <= 256 /\ Fact.Fr 271 fr /\ (fr.tmps[1]? = some (.pointer none) /\ fr.tmps[3]? = some (.bool false) /\ fr.tmps[4]? = some (.pointer (some ⟨B4, 0, none⟩)) /\ fr.tmps[5]? = some (.pointer (some ⟨B5, 0, none⟩)) /\ fr.tmps[6]? = some (.int .i64 i)) /\ wr.heap[B5]? = some (.cells #[v, .int .u64 0] 38 (0, 0)) /\ SR wr R C v l /\ l.map Prod.snd = chainS i /\ (∀ k, C k -> k < wr.heap.size /\ k ≠ B5 /\ v.ownBlock ≠ some k) /\ v.ownBlock ≠ some B5 /\ (wr.cell? ⟨B4, 0, none⟩ = some (.slice none 0 0) /\ wr.cell? ⟨B4, 1, none⟩ = some (.bool true) /\ wr.cell? ⟨B4, 2, none⟩ = some (.int .u64 0)) /\ Below w.heap.size w wr) (256) ?_ ?_
 . (
 obtain ⟨s1, s3, s4, s5, s6⟩ := sS
 exact ⟨0, _, _, fun _ => False, rfl, Nat.zero_le _, hf, ⟨s1, s3, s4, s5, s6⟩, hp5, hsr, rfl, fun _ h => h.elim, by intro e; simp [Value.ownBlock] at e; omega, ⟨l0, l1, l2⟩, hbt⟩)
 . (
 clear hf sS
 clear hp5 hsr l0 l1 l2 hbt
 rintro gk fr wr ⟨i, v, l, C, hk9, hi, hf, ⟨s1, s3, s4, s5, s6⟩, hp5, hsr, hls, hC, hv5, ⟨l0, l1, l2⟩, hbt⟩
 have HK := Lib.hid hk9; clear hk9
 refine Ze fun _ hK10 => ?_
 refine Ze fun _ hK11 => ?_
 refine Zr [49] hf ?_
 refine Zq6 1 3 4 5 6 50 hf ?_
 clear hf s1 s3 s4 s5 s6; intro fr1 hf sS
 refine Zx hK11 ?_
 refine Fact.cond_s sS.2.2.2.2.2 (fun hq => ?_) (fun hq => ?_)
 . (
 have hlt : i < 256 := by have h9 := of_decide_eq_true hq; omega
 clear hq
 have c50 := cell_of_row _ _ 0 _ 38 (0, 0) hp5
 simp at c50
 have hll : l.length = i + 1 := by have := congrArg List.length hls; rwa [List.length_map, chainS_len] at this
 have HLS := Lib.hid hls; have HLL := Lib.hid hll; clear hls hll
 have hB5l := heap_lt hp5
 refine wp_skip ?_
 refine Zs hK10 fun _ hK12 => ?_
 refine wp_block ?_
 refine rg ?_
 have bB := hf.B9 53 54 55 56 57 58 59 60 61
 iterate 4 refine Za ?_
 refine fp fun K Z => ?_
 go_simp
 generalize hV1 : wr.alloc (.cells #[.int .u8 97, .int .u64 0, .int .i64 i] 71) = V1
 obtain ⟨hra, hbV1, hzV1⟩ := ra_one (b := 97) (o := 0) hV1
 clear hV1
 apply Z.out; clear Z K
 refine Za ?_
 refine fp fun K Z => ?_
 go_simp
 generalize hV2 : V1.alloc (.cells #[.slice (some ⟨wr.heap.size, 0, none⟩) 1 1, .bool false, .int .u64 0] 46) = V2
 have hlit := lit_new V1 [.slice (some ⟨wr.heap.size, 0, none⟩) 1 1, .bool false, .int .u64 0] 46
 rw [show V1.alloc (.cells ([.slice (some ⟨wr.heap.size, 0, none⟩) 1 1, .bool false, .int .u64 0] : List Value).toArray 46) = V2 from hV2] at hlit
 rw [hzV1] at hlit
 have hbV2 : Below V1.heap.size V1 V2 := by rw [<- hV2]; exact (Below.refl _ _).alloc (Nat.le_refl _) _
 have hb2 := hbV1.trans (hbV2.mono hbV1.size)
 clear hV2
 have hsr2 := hsr.later hb2
 have hra2 := hra.later hbV2
 have hp52 := (hb2.block _ (heap_lt hp5)).trans hp5
 have hz2 := hbV2.size
 apply Z.out; clear Z K
 obtain ⟨s1, s3, s4, s5, s6, s50⟩ := sS
 clear bB
 refine Fact.reL (n := 271) (by simp only [Fact.G, hf.size]) hf.defers (fun fr1 hf1 hT => ?_)
 have hKp := Fact.h7 hT 1 3 4 5 6 54 59
 simp (decide := true) only [Fact.G, hf.size, reduceIte, s1, s3, s4, s5, s6] at hKp
 replace hf := hf1; clear hT hf1 s1 s3 s4 s5 s6 s50
 obtain ⟨s1, s3, s4, s5, s6, s54, s59⟩ := hKp
 have bB := hf.B2 60 61
 refine ⟨?_⟩
 refine wpList_plain rfl fun KL hKL => ?_
 refine wp_app _ _ 36 rfl 46 _ 3 40 Tryz.underlying36 info_state rfl (by decide) (by decide) R v l.length (scs l) (Fact.eval_tmp s54) hsr2.row (wr.heap.size + 1) [.slice (some ⟨wr.heap.size, 0, none⟩) 1 1, .bool false, .int .u64 0] (Fact.eval_tmp s59) rfl hlit (by simp [Value.oneCell']) (by have := HLL.out; omega) (by omega) (fun v3 V3 hr3 hg3 hat3 => hKL _ _ ?_)
 refine Fact.L.out ?_
 obtain ⟨A3, c3, rfl, -⟩ := row_form hr3
 have hp53 : V3.heap[B5]? = some (.cells #[v, .int .u64 0] 38 (0, 0)) := (hg3.block _ (heap_lt hp52) (fun e => hv5 e.symm)).trans hp52
 have d50 := cell_of_row _ _ 0 _ 38 (0, 0) hp53
 simp at d50
 have f50 := frozen_of (i := 0) hp53
 iterate 2 refine Za ?_
 refine Fact.nil (Zq5 1 3 4 5 6 hf ?_)
 clear hf s1 s3 s4 s5 s6 s54 s59 bB; intro fr1 hf sS
 generalize hW10 : V3.setCell ⟨B5, 0, none⟩ (.slice A3 (l.length + 1) c3) = W10
 obtain ⟨C3, hsr3, hC3⟩ := sr_app (B5 := B5) (st := ⟨false, 0, [⟨97, 0, i⟩]⟩) hsr2 (fun k hk => ⟨Nat.lt_of_lt_of_le (hC k hk).1 hb2.size, (hC k hk).2⟩) hra2 ⟨by omega, by omega, fun e => by have := (World.ownsRow.lt hsr.row _ e).2; omega⟩ hr3 hg3 hat3
 have hbB : But (fun k => k = B5) V3 W10 := by rw [<- hW10]; exact But.setCell (S := fun k => k = B5) rfl _
 have hown3 : (.slice A3 (l.length + 1) c3 : Value).ownBlock ≠ some B5 := by rcases hat3 with e | e; rw [e]; exact hv5; rw [e]; intro e2; injection e2 with e2; omega
 have hp510 : W10.heap[B5]? = some (.cells #[(.slice A3 (l.length + 1) c3), .int .u64 0] 38 (0, 0)) := by rw [<- hW10]; simpa using set_block (i := 0) hp53 (.slice A3 (l.length + 1) c3)
 have hsr10 := hsr3.but hbB (fun k hk e => hown3 (by rw [hk, e])) (fun k hk e => (hC3 k hk).2.1 e)
 have hCk : ∀ (p : Addr) (u : Value), p.block = B4 -> wr.cell? p = some u -> W10.cell? p = some u := fun p u hp hu => by rw [<- hW10]; refine (World.cell?_of_block (Below.heap_setCell _ _ _ _ (by show p.block ≠ B5; omega))).trans ((World.cell?_of_block (hg3.block p.block (by have := cell_lt0 (cL hb2 hu); exact this) (fun e => by have := (World.ownsRow.lt hsr2.row _ e.symm).1; omega))).trans (cL hb2 hu))
 have hbt10 : Below w.heap.size w W10 := by rw [<- hW10]; exact ((hbt.trans (hb2.mono hbt.size)).grown hg3 (by have := hbt.size; have := hb2.size; omega) (fun k e => by have := (World.ownsRow.lt hsr2.row _ e).1; omega)).setCell (p := ⟨B5, 0, none⟩) (by show w.heap.size <= B5; omega) _
 refine Fact.block_normal ?_
 refine Zx hK12 ?_
 refine Zr [51, 52] hf ?_
 refine Zq5 1 3 4 5 6 hf ?_
 clear hf sS; intro fr1 hf sS
 refine Fact.then_normal ?_
 obtain ⟨s1, s3, s4, s5, s6⟩ := sS
 exact ⟨_, by have := HK.out; omega, i + 1, _, _, C3, rfl, by omega, hf, ⟨s1, s3, s4, s5, by rw [s6]; rfl⟩, hp510, hsr10, by rw [List.map_append, HLS.out]; rfl, fun k hk => ⟨Nat.lt_of_lt_of_le (hC3 k hk).1 hbB.size, (hC3 k hk).2⟩, hown3, ⟨hCk _ _ rfl l0, hCk _ _ rfl l1, hCk _ _ rfl l2⟩, hbt10⟩)
 . (
 have hie : i = 256 := by have h9 := of_decide_eq_false hq; omega
 subst hie
 clear hq HK
 have hrA : RS wr v knA := by have := hsr.rs; rwa [hls] at this
 obtain ⟨A, cc, rfl, hcc⟩ := hrA.form
 have hk257 : knA.length = 257 := chainS_len _
 rw [hk257] at hrA hcc hp5
 have c50 := cell_of_row _ _ 0 _ 38 (0, 0) hp5; have c51 := cell_of_row _ _ 1 _ 38 (0, 0) hp5
 simp at c50 c51
 clear hsr hls hC hv5
 refine Zo ?_
 refine Zs hK8 fun _ hK13 => ?_
 refine Zr [62, 7] hf ?_
 refine Zq5 1 3 4 5 7 hf ?_
 clear hf sS; intro fr1 hf sS
 generalize hW11 : wr.alloc (.cells #[.slice A 257 cc, .int .u64 0] 38) = W11
 obtain ⟨hb11, hp7⟩ := box_row hW11
 clear hW11
 replace l0 := cL hb11 l0; replace l1 := cL hb11 l1; replace l2 := cL hb11 l2
 replace hbt := hbt.trans (hb11.mono hbt.size)
 replace c50 := cL hb11 c50; replace c51 := cL hb11 c51; have hrn := hrA.n.below hb11
 obtain ⟨B7, hB7⟩ : ∃ x, wr.heap.size = x := ⟨_, rfl⟩
 have hB57 : B5 < B7 := by rw [<- hB7]; exact heap_lt hp5
 have hB47 : B4 < B7 := by omega
 have hwB7 : w.heap.size <= B7 := by omega
 obtain ⟨s1, s3, s4, s5, s7⟩ := sS
 rw [hB7] at s7 hp7 hrn
 have c70 := cell_of_row _ _ 0 _ 38 (0, 0) hp7; have c71 := cell_of_row _ _ 1 _ 38 (0, 0) hp7
 simp at c70 c71
 have f70 := frozen_of (i := 0) hp7
 clear hp5 hB7
 refine Zt hK13 fun _ hK14 => ?_
 have bB := hf.B4 63 64 65 66
 iterate 2 refine Za ?_
 refine fp fun K Z => ?_
 go_simp
 rw [if_pos (by omega), Oper.upon_value]
 apply Z.out; clear Z K
 iterate 2 refine Za ?_
 refine Fact.nil (Zq5 1 3 4 5 7 hf ?_)
 clear hf s1 s3 s4 s5 s7 bB; intro fr1 hf sS
 generalize hW12 : W11.setCell ⟨B7, 0, none⟩ (.slice A 256 cc) = W12
 have hbB : But (fun k => k = B7) W11 W12 := by rw [<- hW12]; exact But.setCell (S := fun k => k = B7) rfl _
 have hk12 : ∀ (p : Addr) (u : Value), p.block ≠ B7 -> W11.cell? p = some u -> W12.cell? p = some u := fun p u hp hu => by rw [<- hW12]; exact (World.cell?_of_block (Below.heap_setCell _ _ _ _ hp)).trans hu
 have hp72 : W12.heap[B7]? = some (.cells #[.slice A 256 cc, .int .u64 0] 38 (0, 0)) := by rw [<- hW12]; simpa using set_block (i := 0) hp7 (.slice A 256 cc)
 have hrA2 := (hrn.keep fun p v hp hv => hk12 p v (by omega) hv).rs
 replace c50 := hk12 _ _ (by simp only; omega) c50; replace c51 := hk12 _ _ (by simp only; omega) c51; replace l0 := hk12 _ _ (by simp only; omega) l0; replace l1 := hk12 _ _ (by simp only; omega) l1; replace l2 := hk12 _ _ (by simp only; omega) l2
 replace c70 := cell_of_row _ _ 0 _ 38 (0, 0) hp72; replace c71 := cell_of_row _ _ 1 _ 38 (0, 0) hp72
 simp at c70 c71
 have hrB : RS W12 (.slice A 256 cc) knB := by have := hrA2.take (m := 256) (by decide); rwa [show knA.take 256 = knB from chainS_take 255] at this
 replace hbt : Below w.heap.size w W12 := by rw [<- hW12]; exact hbt.setCell (p := ⟨B7, 0, none⟩) hwB7 _
 clear hW12 hbB hk12 hp7 hp72 f70 hrA hrn
 refine Zt hK14 fun _ hK15 => ?_
 have bB := hf.B5 68 69 67 70 71
 refine Za ?_
 refine fp fun K Z => ?_
 go_simp
 go_at_call 14; refine (put14 W12 1 (.slice A 257 cc) 0 knA hrA2 (okS_all _ knA_okb) knA_len (few_all _ knA_okb) (by decide)).mono ?_; rintro e w13 ⟨rfl, hb13⟩
 rw [kn_code knA_may]
 have kpA := knA_put
 obtain ⟨SA, hSA⟩ : ∃ x, bl (putR 1 0 knA).1 = x := ⟨_, rfl⟩
 rw [hSA] at kpA |-
 clear hSA
 replace hbt := hbt.trans (hb13.mono hbt.size)
 replace l0 := cL hb13 l0
 replace l1 := cL hb13 l1
 replace l2 := cL hb13 l2
 replace c50 := cL hb13 c50
 replace c51 := cL hb13 c51
 replace c70 := cL hb13 c70
 replace c71 := cL hb13 c71
 replace hrA2 := hrA2.later hb13
 replace hrB := hrB.later hb13
 clear c50 c51 hrA2
 try dsimp only
 apply Z.out; clear Z K
 iterate 5 refine Za ?_
 refine Fact.nil (Zq5 1 3 4 7 8 hf ?_)
 clear hf sS bB; intro fr1 hf sS
 refine Zt hK15 fun _ hK16 => ?_
 have bB := hf.B5 73 74 72 75 76
 refine Za ?_
 refine fp fun K Z => ?_
 go_simp
 go_at_call 14; refine (put14 w13 1 (.slice A 256 cc) 0 knB hrB (okS_all _ knB_okb) knB_len (few_all _ knB_okb) (by decide)).mono ?_; rintro e w14 ⟨rfl, hb14⟩
 rw [kn_code knB_may]
 have kpB := knB_put
 obtain ⟨SB, hSB⟩ : ∃ x, bl (putR 1 0 knB).1 = x := ⟨_, rfl⟩
 rw [hSB] at kpB |-
 clear hSB
 replace hbt := hbt.trans (hb14.mono hbt.size)
 replace l0 := cL hb14 l0
 replace l1 := cL hb14 l1
 replace l2 := cL hb14 l2
 replace c70 := cL hb14 c70
 replace c71 := cL hb14 c71
 replace hrB := hrB.later hb14
 clear c70 c71 hrB
 try dsimp only
 apply Z.out; clear Z K
 iterate 5 refine Za ?_
 refine Fact.nil (Zq5 1 3 4 8 10 hf ?_)
 clear hf sS bB; intro fr1 hf sS
 refine Zt hK16 fun _ hK17 => ?_
 have bB := hf.B7 78 79 80 81 77 82 83
 refine Za ?_
 refine fp fun K Z => ?_
 go_simp
 generalize hU1 : World.alloc w14 (.cells #[.slice none 0 0, .bool true, .int .u64 0] 46) = U1
 obtain ⟨bU1, x79⟩ := RS.lit hU1 [(.slice none 0 0, ⟨true, 0, []⟩)] rfl (fun x hx => by simp only [List.mem_cons, List.not_mem_nil, or_false] at hx; subst hx; all_goals first | exact RA.nil_)
 replace hbt := hbt.trans (bU1.mono hbt.size)
 replace l0 := cL bU1 l0
 replace l1 := cL bU1 l1
 replace l2 := cL bU1 l2
 clear hU1
 apply Z.out; clear Z K
 refine Za ?_
 refine fp fun K Z => ?_
 go_simp
 go_at_call 14; refine (put14 U1 1 (.slice (some ⟨w14.heap.size, 0, none⟩) 1 1) 0 knC x79 (okS_all _ knC_okb) knC_len (few_all _ knC_okb) (by decide)).mono ?_; rintro e w15 ⟨rfl, hb15⟩
 rw [kn_code knC_may]
 have kpC := knC_put
 obtain ⟨SC, hSC⟩ : ∃ x, bl (putR 1 0 knC).1 = x := ⟨_, rfl⟩
 rw [hSC] at kpC |-
 clear hSC
 replace hbt := hbt.trans (hb15.mono hbt.size)
 replace l0 := cL hb15 l0
 replace l1 := cL hb15 l1
 replace l2 := cL hb15 l2
 replace x79 := x79.later hb15
 clear x79
 try dsimp only
 apply Z.out; clear Z K
 iterate 5 refine Za ?_
 refine Fact.nil (Zq6 1 3 4 8 10 12 hf ?_)
 clear hf sS bB; intro fr1 hf sS
 refine Zt hK17 fun _ hK18 => ?_
 have bB := hf.B10 85 86 87 88 89 90 91 84 92 93
 iterate 2 refine Za ?_
 refine fp fun K Z => ?_
 go_simp
 generalize hU2 : World.alloc w15 (.cells #[.int .u8 97, .int .u64 0, .int .i64 (0)] 71) = U2
 obtain ⟨bU2, x87⟩ := RA.lit hU2 [⟨97, 0, 0⟩] rfl
 replace hbt := hbt.trans (bU2.mono hbt.size)
 replace l0 := cL bU2 l0
 replace l1 := cL bU2 l1
 replace l2 := cL bU2 l2
 clear hU2
 apply Z.out; clear Z K
 refine Za ?_
 refine fp fun K Z => ?_
 go_simp
 generalize hU3 : World.alloc U2 (.cells #[.slice none 0 0, .bool true, .int .u64 0, .slice (some ⟨w15.heap.size, 0, none⟩) 1 1, .bool false, .int .u64 0] 46) = U3
 obtain ⟨bU3, x89⟩ := RS.lit hU3 [(.slice none 0 0, ⟨true, 0, []⟩), (.slice (some ⟨w15.heap.size, 0, none⟩) 1 1, ⟨false, 0, [⟨97, 0, 0⟩]⟩)] rfl (fun x hx => by simp only [List.mem_cons, List.not_mem_nil, or_false] at hx; rcases hx with rfl | rfl; all_goals first | exact RA.nil_ | exact x87)
 replace hbt := hbt.trans (bU3.mono hbt.size)
 replace l0 := cL bU3 l0
 replace l1 := cL bU3 l1
 replace l2 := cL bU3 l2
 replace x87 := x87.later bU3
 clear hU3
 apply Z.out; clear Z K
 refine Za ?_
 refine fp fun K Z => ?_
 go_simp
 go_at_call 14; refine (put14 U3 1 (.slice (some ⟨U2.heap.size, 0, none⟩) 2 2) 4294967297 knD x89 (okS_all _ knD_okb) knD_len (few_all _ knD_okb) (by decide)).mono ?_; rintro e w16 ⟨rfl, hb16⟩
 rw [kn_code knD_may]
 have kpD := knD_put
 obtain ⟨SD, hSD⟩ : ∃ x, bl (putR 1 4294967297 knD).1 = x := ⟨_, rfl⟩
 rw [hSD] at kpD |-
 clear hSD
 replace hbt := hbt.trans (hb16.mono hbt.size)
 replace l0 := cL hb16 l0
 replace l1 := cL hb16 l1
 replace l2 := cL hb16 l2
 replace x87 := x87.later hb16
 replace x89 := x89.later hb16
 clear x87 x89
 try dsimp only
 apply Z.out; clear Z K
 iterate 5 refine Za ?_
 refine Fact.nil (Zq7 1 3 4 8 10 12 14 hf ?_)
 clear hf sS bB; intro fr1 hf sS
 refine Zt hK18 fun _ hK19 => ?_
 have bB := hf.B10 95 96 97 98 99 100 101 94 102 103
 iterate 2 refine Za ?_
 refine fp fun K Z => ?_
 go_simp
 generalize hU4 : World.alloc w16 (.cells #[.int .u8 97, .int .u64 0, .int .i64 (0)] 71) = U4
 obtain ⟨bU4, x97⟩ := RA.lit hU4 [⟨97, 0, 0⟩] rfl
 replace hbt := hbt.trans (bU4.mono hbt.size)
 replace l0 := cL bU4 l0
 replace l1 := cL bU4 l1
 replace l2 := cL bU4 l2
 clear hU4
 apply Z.out; clear Z K
 refine Za ?_
 refine fp fun K Z => ?_
 go_simp
 generalize hU5 : World.alloc U4 (.cells #[.slice none 0 0, .bool true, .int .u64 0, .slice (some ⟨w16.heap.size, 0, none⟩) 1 1, .bool false, .int .u64 0] 46) = U5
 obtain ⟨bU5, x99⟩ := RS.lit hU5 [(.slice none 0 0, ⟨true, 0, []⟩), (.slice (some ⟨w16.heap.size, 0, none⟩) 1 1, ⟨false, 0, [⟨97, 0, 0⟩]⟩)] rfl (fun x hx => by simp only [List.mem_cons, List.not_mem_nil, or_false] at hx; rcases hx with rfl | rfl; all_goals first | exact RA.nil_ | exact x97)
 replace hbt := hbt.trans (bU5.mono hbt.size)
 replace l0 := cL bU5 l0
 replace l1 := cL bU5 l1
 replace l2 := cL bU5 l2
 replace x97 := x97.later bU5
 clear hU5
 apply Z.out; clear Z K
 refine Za ?_
 refine fp fun K Z => ?_
 go_simp
 go_at_call 14; refine (put14 U5 1 (.slice (some ⟨U4.heap.size, 0, none⟩) 2 2) 4294967296 knE x99 (okS_all _ knE_okb) knE_len (few_all _ knE_okb) (by decide)).mono ?_; rintro e w17 ⟨rfl, hb17⟩
 rw [kn_code knE_may]
 have kpE := knE_put
 obtain ⟨SE, hSE⟩ : ∃ x, bl (putR 1 4294967296 knE).1 = x := ⟨_, rfl⟩
 rw [hSE] at kpE |-
 clear hSE
 replace hbt := hbt.trans (hb17.mono hbt.size)
 replace l0 := cL hb17 l0
 replace l1 := cL hb17 l1
 replace l2 := cL hb17 l2
 replace x97 := x97.later hb17
 replace x99 := x99.later hb17
 clear x97 x99
 try dsimp only
 apply Z.out; clear Z K
 iterate 5 refine Za ?_
 refine Fact.nil (Zq8 1 3 4 8 10 12 14 16 hf ?_)
 clear hf sS bB; intro fr1 hf sS
 refine Zt hK19 fun _ hK20 => ?_
 have bB := hf.B10 105 106 107 108 109 110 111 104 112 113
 iterate 2 refine Za ?_
 refine fp fun K Z => ?_
 go_simp
 generalize hU6 : World.alloc w17 (.cells #[.int .u8 97, .int .u64 1, .int .i64 (0)] 71) = U6
 obtain ⟨bU6, x107⟩ := RA.lit hU6 [⟨97, 1, 0⟩] rfl
 replace hbt := hbt.trans (bU6.mono hbt.size)
 replace l0 := cL bU6 l0
 replace l1 := cL bU6 l1
 replace l2 := cL bU6 l2
 clear hU6
 apply Z.out; clear Z K
 refine Za ?_
 refine fp fun K Z => ?_
 go_simp
 generalize hU7 : World.alloc U6 (.cells #[.slice none 0 0, .bool true, .int .u64 0, .slice (some ⟨w17.heap.size, 0, none⟩) 1 1, .bool false, .int .u64 0] 46) = U7
 obtain ⟨bU7, x109⟩ := RS.lit hU7 [(.slice none 0 0, ⟨true, 0, []⟩), (.slice (some ⟨w17.heap.size, 0, none⟩) 1 1, ⟨false, 0, [⟨97, 1, 0⟩]⟩)] rfl (fun x hx => by simp only [List.mem_cons, List.not_mem_nil, or_false] at hx; rcases hx with rfl | rfl; all_goals first | exact RA.nil_ | exact x107)
 replace hbt := hbt.trans (bU7.mono hbt.size)
 replace l0 := cL bU7 l0
 replace l1 := cL bU7 l1
 replace l2 := cL bU7 l2
 replace x107 := x107.later bU7
 clear hU7
 apply Z.out; clear Z K
 refine Za ?_
 refine fp fun K Z => ?_
 go_simp
 go_at_call 14; refine (put14 U7 1 (.slice (some ⟨U6.heap.size, 0, none⟩) 2 2) 0 knF x109 (okS_all _ knF_okb) knF_len (few_all _ knF_okb) (by decide)).mono ?_; rintro e w18 ⟨rfl, hb18⟩
 rw [kn_code knF_may]
 have kpF := knF_put
 obtain ⟨SF, hSF⟩ : ∃ x, bl (putR 1 0 knF).1 = x := ⟨_, rfl⟩
 rw [hSF] at kpF |-
 clear hSF
 replace hbt := hbt.trans (hb18.mono hbt.size)
 replace l0 := cL hb18 l0
 replace l1 := cL hb18 l1
 replace l2 := cL hb18 l2
 replace x107 := x107.later hb18
 replace x109 := x109.later hb18
 clear x107 x109
 try dsimp only
 apply Z.out; clear Z K
 iterate 5 refine Za ?_
 refine Fact.nil (Zq9 1 3 4 8 10 12 14 16 18 hf ?_)
 clear hf sS bB; intro fr1 hf sS
 refine Zt hK20 fun _ hK21 => ?_
 have bB := And.intro (hf.B10 115 116 117 118 119 120 121 122 123 114) (hf.B2 124 125)
 iterate 4 refine Za ?_
 refine fp fun K Z => ?_
 go_simp
 generalize hU8 : World.alloc w18 (.cells #[.int .u8 97, .int .u64 0, .int .i64 (0), .int .u8 98, .int .u64 0, .int .i64 (1)] 71) = U8
 obtain ⟨bU8, x119⟩ := RA.lit hU8 [⟨97, 0, 0⟩, ⟨98, 0, 1⟩] rfl
 replace hbt := hbt.trans (bU8.mono hbt.size)
 replace l0 := cL bU8 l0
 replace l1 := cL bU8 l1
 replace l2 := cL bU8 l2
 clear hU8
 apply Z.out; clear Z K
 refine Za ?_
 refine fp fun K Z => ?_
 go_simp
 generalize hU9 : World.alloc U8 (.cells #[.slice none 0 0, .bool true, .int .u64 0, .slice none 0 0, .bool true, .int .u64 0, .slice (some ⟨w18.heap.size, 0, none⟩) 2 2, .bool false, .int .u64 0] 46) = U9
 obtain ⟨bU9, x121⟩ := RS.lit hU9 [(.slice none 0 0, ⟨true, 0, []⟩), (.slice none 0 0, ⟨true, 0, []⟩), (.slice (some ⟨w18.heap.size, 0, none⟩) 2 2, ⟨false, 0, [⟨97, 0, 0⟩, ⟨98, 0, 1⟩]⟩)] rfl (fun x hx => by simp only [List.mem_cons, List.not_mem_nil, or_false] at hx; rcases hx with rfl | rfl | rfl; all_goals first | exact RA.nil_ | exact x119)
 replace hbt := hbt.trans (bU9.mono hbt.size)
 replace l0 := cL bU9 l0
 replace l1 := cL bU9 l1
 replace l2 := cL bU9 l2
 replace x119 := x119.later bU9
 clear hU9
 apply Z.out; clear Z K
 refine Za ?_
 refine fp fun K Z => ?_
 go_simp
 go_at_call 14; refine (put14 U9 2 (.slice (some ⟨U8.heap.size, 0, none⟩) 3 3) 0 knG x121 (okS_all _ knG_okb) knG_len (few_all _ knG_okb) (by decide)).mono ?_; rintro e w19 ⟨rfl, hb19⟩
 rw [kn_code knG_may]
 have kpG := knG_put
 obtain ⟨SG, hSG⟩ : ∃ x, bl (putR 2 0 knG).1 = x := ⟨_, rfl⟩
 rw [hSG] at kpG |-
 clear hSG
 replace hbt := hbt.trans (hb19.mono hbt.size)
 replace l0 := cL hb19 l0
 replace l1 := cL hb19 l1
 replace l2 := cL hb19 l2
 replace x119 := x119.later hb19
 replace x121 := x121.later hb19
 clear x119 x121
 try dsimp only
 apply Z.out; clear Z K
 iterate 5 refine Za ?_
 refine Fact.nil (Zq10 1 3 4 8 10 12 14 16 18 20 hf ?_)
 clear hf sS bB; intro fr1 hf sS
 refine Zt hK21 fun _ hK22 => ?_
 have bB := And.intro (hf.B10 127 128 129 130 131 132 133 134 126 135) (hf.b 136)
 iterate 3 refine Za ?_
 refine fp fun K Z => ?_
 go_simp
 generalize hU10 : World.alloc w19 (.cells #[.int .u8 97, .int .u64 0, .int .i64 (0), .int .u8 98, .int .u64 0, .int .i64 (0)] 71) = U10
 obtain ⟨bU10, x130⟩ := RA.lit hU10 [⟨97, 0, 0⟩, ⟨98, 0, 0⟩] rfl
 replace hbt := hbt.trans (bU10.mono hbt.size)
 replace l0 := cL bU10 l0
 replace l1 := cL bU10 l1
 replace l2 := cL bU10 l2
 clear hU10
 apply Z.out; clear Z K
 refine Za ?_
 refine fp fun K Z => ?_
 go_simp
 generalize hU11 : World.alloc U10 (.cells #[.slice none 0 0, .bool true, .int .u64 0, .slice (some ⟨w19.heap.size, 0, none⟩) 2 2, .bool false, .int .u64 0] 46) = U11
 obtain ⟨bU11, x132⟩ := RS.lit hU11 [(.slice none 0 0, ⟨true, 0, []⟩), (.slice (some ⟨w19.heap.size, 0, none⟩) 2 2, ⟨false, 0, [⟨97, 0, 0⟩, ⟨98, 0, 0⟩]⟩)] rfl (fun x hx => by simp only [List.mem_cons, List.not_mem_nil, or_false] at hx; rcases hx with rfl | rfl; all_goals first | exact RA.nil_ | exact x130)
 replace hbt := hbt.trans (bU11.mono hbt.size)
 replace l0 := cL bU11 l0
 replace l1 := cL bU11 l1
 replace l2 := cL bU11 l2
 replace x130 := x130.later bU11
 clear hU11
 apply Z.out; clear Z K
 refine Za ?_
 refine fp fun K Z => ?_
 go_simp
 go_at_call 14; refine (put14 U11 2 (.slice (some ⟨U10.heap.size, 0, none⟩) 2 2) 0 knH x132 (okS_all _ knH_okb) knH_len (few_all _ knH_okb) (by decide)).mono ?_; rintro e w20 ⟨rfl, hb20⟩
 rw [kn_code knH_may]
 have kpH := knH_put
 obtain ⟨SH, hSH⟩ : ∃ x, bl (putR 2 0 knH).1 = x := ⟨_, rfl⟩
 rw [hSH] at kpH |-
 clear hSH
 replace hbt := hbt.trans (hb20.mono hbt.size)
 replace l0 := cL hb20 l0
 replace l1 := cL hb20 l1
 replace l2 := cL hb20 l2
 replace x130 := x130.later hb20
 replace x132 := x132.later hb20
 clear x130 x132
 try dsimp only
 apply Z.out; clear Z K
 iterate 5 refine Za ?_
 refine Fact.nil (Zq10 1 3 8 10 12 14 16 18 20 22 hf ?_)
 clear hf sS bB; intro fr1 hf sS
 refine Zt hK22 fun _ hK23 => ?_
 have bB := hf.B7 138 139 140 141 137 142 143
 refine Za ?_
 refine fp fun K Z => ?_
 go_simp
 generalize hU12 : World.alloc w20 (.cells #[.slice none 0 0, .bool false, .int .u64 0] 46) = U12
 obtain ⟨bU12, x139⟩ := RS.lit hU12 [(.slice none 0 0, ⟨false, 0, []⟩)] rfl (fun x hx => by simp only [List.mem_cons, List.not_mem_nil, or_false] at hx; subst hx; all_goals first | exact RA.nil_)
 replace hbt := hbt.trans (bU12.mono hbt.size)
 replace l0 := cL bU12 l0
 replace l1 := cL bU12 l1
 replace l2 := cL bU12 l2
 clear hU12
 apply Z.out; clear Z K
 refine Za ?_
 refine fp fun K Z => ?_
 go_simp
 go_at_call 14; refine (put14 U12 0 (.slice (some ⟨w20.heap.size, 0, none⟩) 1 1) 0 knI x139 (okS_all _ knI_okb) knI_len (few_all _ knI_okb) (by decide)).mono ?_; rintro e w21 ⟨rfl, hb21⟩
 rw [kn_code knI_may]
 have kpI := knI_put
 obtain ⟨SI, hSI⟩ : ∃ x, bl (putR 0 0 knI).1 = x := ⟨_, rfl⟩
 rw [hSI] at kpI |-
 clear hSI
 replace hbt := hbt.trans (hb21.mono hbt.size)
 replace l0 := cL hb21 l0
 replace l1 := cL hb21 l1
 replace l2 := cL hb21 l2
 replace x139 := x139.later hb21
 clear x139
 try dsimp only
 apply Z.out; clear Z K
 iterate 5 refine Za ?_
 refine Fact.nil (Zq11 1 3 8 10 12 14 16 18 20 22 24 hf ?_)
 clear hf sS bB; intro fr1 hf sS
 refine Zx hK23 ?_
 clear l0 l1 l2
 refine Ze fun _ hK24 => rg ?_
 have bB := hf.B5 145 146 144 147 148
 refine Za ?_
 refine fp fun K Z => ?_
 go_simp
 go_at_call 15; refine (open15 w21 SB kpB.sz kpB.hlen).mono ?_; rintro e w22 hop
 obtain ⟨QB, svB, rfl, hQB, hrBx, hb22⟩ := kpB.opened knB_right hop
 clear hop
 replace hbt := hbt.trans (hb22.mono hbt.size)
 try dsimp only
 apply Z.out; clear Z K
 iterate 5 refine Za ?_
 refine Fact.nil (Zq12 1 3 8 12 14 16 18 20 22 24 26 27 hf ?_)
 clear hf sS bB; intro fr1 hf sS
 refine Zt hK24 fun _ hK25 => ?_
 have bB := hf.B5 150 151 149 152 153
 refine Za ?_
 refine fp fun K Z => ?_
 go_simp
 go_at_call 15; refine (open15 w22 SE kpE.sz kpE.hlen).mono ?_; rintro e w23 hop
 obtain ⟨QE, svE, rfl, hQE, hrEx, hb23⟩ := kpE.opened knE_right hop
 clear hop
 replace hbt := hbt.trans (hb23.mono hbt.size)
 replace hQB := (hb23.block _ (heap_lt hQB)).trans hQB
 replace hrBx := hrBx.later hb23
 try dsimp only
 apply Z.out; clear Z K
 iterate 5 refine Za ?_
 refine Fact.nil (Zq13 1 3 8 12 14 18 20 22 24 26 27 28 29 hf ?_)
 clear hf sS bB; intro fr1 hf sS
 refine Zt hK25 fun _ hK26 => ?_
 have bB := hf.B5 155 156 154 157 158
 refine Za ?_
 refine fp fun K Z => ?_
 go_simp
 go_at_call 15; refine (open15 w23 SH kpH.sz kpH.hlen).mono ?_; rintro e w24 hop
 obtain ⟨QH, svH, rfl, hQH, hrHx, hb24⟩ := kpH.opened knH_right hop
 clear hop
 replace hbt := hbt.trans (hb24.mono hbt.size)
 replace hQB := (hb24.block _ (heap_lt hQB)).trans hQB
 replace hrBx := hrBx.later hb24
 replace hQE := (hb24.block _ (heap_lt hQE)).trans hQE
 replace hrEx := hrEx.later hb24
 try dsimp only
 apply Z.out; clear Z K
 iterate 5 refine Za ?_
 refine Fact.nil (Zq13 1 3 8 12 14 18 20 24 26 27 28 29 31 hf ?_)
 clear hf sS bB; intro fr1 hf sS
 refine Zs hK26 fun _ hK27 => ?_
 refine Ze fun _ hK28 => ?_
 refine Zr [159, 160, 161, 162, 163, 164, 165, 166, 167, 168, 169, 170, 171] hf ?_
 refine Zq12 1 3 8 12 14 18 20 24 26 28 31 172 hf ?_
 clear hf sS; intro fr1 hf sS
 refine Zx hK28 ?_
 refine Fact.cond_f sS.2.2.2.2.2.2.2.2.2.2.2 ?_
 refine wp_skip ?_
 refine Zt hK27 fun _ hK29 => ?_
 have bB := hf.B6 174 175 173 176 177 32
 refine Za ?_
 refine fp fun K Z => ?_
 go_simp
 go_at_call 22; refine (sget22 w24 QE 4294967296 1 SE.size svE hQE knE ⟨#[97]⟩ hrEx (by decide) (okS_all _ knE_okb) knE_formed (by decide) (by decide) (by decide)).mono ?_; rintro e w27 ⟨rfl, hb27⟩
 rw [knE_get]
 simp only [eval]
 replace hbt := hbt.trans (hb27.mono hbt.size)
 replace hQB := (hb27.block _ (heap_lt hQB)).trans hQB
 replace hrBx := hrBx.later hb27
 replace hQE := (hb27.block _ (heap_lt hQE)).trans hQE
 replace hrEx := hrEx.later hb27
 replace hQH := (hb27.block _ (heap_lt hQH)).trans hQH
 replace hrHx := hrHx.later hb27
 try dsimp only
 apply Z.out; clear Z K
 iterate 6 refine Za ?_
 refine Fact.nil (Zq12 1 3 8 12 14 18 20 24 26 31 32 33 hf ?_)
 clear hf sS bB; intro fr1 hf sS
 obtain ⟨W27, hW27⟩ : ∃ W0, w27.alloc (.cells #[.string ⟨#[97]⟩, .int .u32 4294967295, .bool false] 64) = W0 := ⟨_, rfl⟩
 try rw [hW27]
 obtain ⟨hbW27, -, y1, -, -, -⟩ := box3 hW27
 clear hW27
 replace hbt := hbt.trans (hbW27.mono hbt.size)
 replace hQB := (hbW27.block _ (heap_lt hQB)).trans hQB
 replace hrBx := hrBx.later hbW27
 replace hQE := (hbW27.block _ (heap_lt hQE)).trans hQE
 replace hrEx := hrEx.later hbW27
 replace hQH := (hbW27.block _ (heap_lt hQH)).trans hQH
 replace hrHx := hrHx.later hbW27
 refine Zt hK29 fun _ hK30 => ?_
 have bB := hf.B7 179 180 181 182 178 183 184
 refine fp fun K Z => ?_
 go_simp
 go_at_call 25; refine (Tryz.strings_Repeat ⟨#[97]⟩ 256 W27 (by decide) (by decide)).mono ?_; rintro e w28 ⟨rfl, hb28⟩
 obtain ⟨RP, hRP⟩ : ∃ x, knW = x := ⟨_, rfl⟩
 rw [show (⟨(Lib.repeatL (⟨#[97]⟩ : ByteArray).data.toList 256).toArray⟩ : ByteArray) = RP from hRP]
 have HRP := Lib.hid hRP; clear hRP
 replace hbt := hbt.trans (hb28.mono hbt.size)
 replace hQB := (hb28.block _ (heap_lt hQB)).trans hQB
 replace hrBx := hrBx.later hb28
 replace hQE := (hb28.block _ (heap_lt hQE)).trans hQE
 replace hrEx := hrEx.later hb28
 replace hQH := (hb28.block _ (heap_lt hQH)).trans hQH
 replace hrHx := hrHx.later hb28
 replace y1 := cL hb28 y1
 try dsimp only
 apply Z.out; clear Z K
 refine Za ?_
 refine fp fun K Z => ?_
 go_simp
 generalize hX28 : w28.alloc (.cells #[.string RP, .int .u32 0, .bool false] 64) = X28
 obtain ⟨bX28, xE⟩ := RE.lit hX28 [⟨RP, 0, false⟩] rfl
 clear hX28
 replace hbt := hbt.trans (bX28.mono hbt.size)
 replace hQB := (bX28.block _ (heap_lt hQB)).trans hQB
 replace hrBx := hrBx.later bX28
 replace hQE := (bX28.block _ (heap_lt hQE)).trans hQE
 replace hrEx := hrEx.later bX28
 replace hQH := (bX28.block _ (heap_lt hQH)).trans hQH
 replace hrHx := hrHx.later bX28
 replace y1 := cL bX28 y1
 apply Z.out; clear Z K
 refine fp fun K Z => ?_
 go_simp
 go_at_call 9; refine (make9 X28 [⟨RP, 0, false⟩] X28.heap.size _ (Nat.le_refl _) xE (Nat.le_of_ble_eq_true rfl) (fun e he => by simp only [List.mem_cons, List.not_mem_nil, or_false] at he; subst he; unfold okE; simp) (by rw [<- HRP.out]; exact knW_init)).mono ?_; rintro e w29 ⟨rfl, hb29⟩
 rw [show makeV [⟨RP, 0, false⟩] = (⟨#[]⟩, 7) by rw [<- HRP.out]; exact knW_make]
 replace hbt := hbt.trans (hb29.mono hbt.size)
 replace hQB := (hb29.block _ (heap_lt hQB)).trans hQB
 replace hrBx := hrBx.later hb29
 replace hQE := (hb29.block _ (heap_lt hQE)).trans hQE
 replace hrEx := hrEx.later hb29
 replace hQH := (hb29.block _ (heap_lt hQH)).trans hQH
 replace hrHx := hrHx.later hb29
 replace y1 := cL hb29 y1
 clear xE
 try dsimp only
 apply Z.out; clear Z K
 iterate 5 refine Za ?_
 refine Fact.nil (Zq13 1 3 8 12 14 18 20 24 26 31 32 33 35 hf ?_)
 clear hf sS bB; intro fr1 hf sS
 refine Zx hK30 ?_
 obtain ⟨FB, hFB⟩ : ∃ x, fromV knB 0 ⟨#[]⟩ 1 = x := ⟨_, rfl⟩
 have hFl := knB_all.1
 have hFw := knB_all.2
 rw [hFB] at hFl hFw
 have HFB := Lib.hid hFB; have HFW := Lib.hid hFw; clear hFB hFw
 refine Ze fun _ hK31 => rg ?_
 have bB := And.intro (hf.B10 185 186 187 188 189 190 191 192 193 194) (And.intro (hf.B10 195 196 197 198 199 200 201 202 203 204) (And.intro (hf.B10 205 206 207 208 209 210 211 212 213 214) (And.intro (hf.B10 215 216 217 218 219 220 221 222 223 224) (And.intro (hf.B10 225 226 227 228 229 230 231 232 233 234) (And.intro (hf.B10 235 236 237 238 239 240 241 242 243 244) (And.intro (hf.B10 245 246 247 248 249 250 251 252 253 254) (And.intro (hf.B10 255 256 257 258 259 260 261 262 263 264) (hf.B6 265 266 267 268 269 270))))))))
 refine Za ?_
 refine fp fun K Z => ?_
 go_simp
 go_at_call 11; refine (corrupt11 w29 SA kpA.sz kpA.hlen).mono ?_; rintro e v1 ⟨rfl, hc⟩
 rw [kpA.opv knA_right]
 simp only [Bool.not_false]
 replace hbt := hbt.trans (hc.mono hbt.size)
 replace hQB := (hc.block _ (heap_lt hQB)).trans hQB
 replace hrBx := hrBx.later hc
 replace hQE := (hc.block _ (heap_lt hQE)).trans hQE
 replace hrEx := hrEx.later hc
 replace hQH := (hc.block _ (heap_lt hQH)).trans hQH
 replace hrHx := hrHx.later hc
 replace y1 := cL hc y1
 clear hc
 try dsimp only
 apply Z.out; clear Z K
 refine Za ?_
 refine Zg ?_
 refine og 2 187 true ?_ fun K Z => ?_
 . (
 simp (decide := true) only [Fact.G, reduceIte, hf.size])
 go_simp
 go_at_call 16; refine (all16 v1 svB 0 knB QB 1 SB.size hQB hrBx (by decide) (by decide) (by have := knB_len; omega) (okS_all _ knB_okb) knB_formed).mono ?_; rintro e v4 ⟨vB, rfl, how, hc⟩
 rw [HFB.out] at how
 obtain ⟨AB, cB, rfl, -⟩ := OE.form how
 rw [hFl]
 clear how
 replace hbt := hbt.trans (hc.mono hbt.size)
 replace hQB := (hc.block _ (heap_lt hQB)).trans hQB
 replace hrBx := hrBx.later hc
 replace hQE := (hc.block _ (heap_lt hQE)).trans hQE
 replace hrEx := hrEx.later hc
 replace hQH := (hc.block _ (heap_lt hQH)).trans hQH
 replace hrHx := hrHx.later hc
 replace y1 := cL hc y1
 clear hc
 try dsimp only
 apply Z.out; clear Z K
 iterate 2 refine Zg ?_
 iterate 2 refine Za ?_
 refine Zg ?_
 refine og 8 193 true ?_ fun K Z => ?_
 . (
 simp (decide := true) only [Fact.G, reduceIte, hf.size])
 go_simp
 go_at_call 16; refine (all16 v4 svB 0 knB QB 1 SB.size hQB hrBx (by decide) (by decide) (by have := knB_len; omega) (okS_all _ knB_okb) knB_formed).mono ?_; rintro e v10 ⟨vB, rfl, how, hc⟩
 rw [HFB.out] at how
 have hre := OE.re (es := FB) how
 obtain ⟨AB2, cB2, rfl, -⟩ := OE.form how
 obtain ⟨e0, he0⟩ : ∃ e, FB[0]? = some e := ⟨_, List.getElem?_eq_getElem (by omega)⟩
 obtain ⟨gB, oB, hAB, -, -, d0, d1, d2⟩ := hre.at_ he0
 subst hAB
 have h255 := HFW.out e0 he0
 simp only [Nat.zero_mul, Nat.add_zero] at d0
 rw [hFl]
 clear how hre d1 d2
 replace hbt := hbt.trans (hc.mono hbt.size)
 replace hQB := (hc.block _ (heap_lt hQB)).trans hQB
 replace hrBx := hrBx.later hc
 replace hQE := (hc.block _ (heap_lt hQE)).trans hQE
 replace hrEx := hrEx.later hc
 replace hQH := (hc.block _ (heap_lt hQH)).trans hQH
 replace hrHx := hrHx.later hc
 replace y1 := cL hc y1
 clear hc
 try dsimp only
 apply Z.out; clear Z K
 iterate 5 refine Zg ?_
 iterate 2 refine Za ?_
 refine Zg ?_
 refine og 17 202 true ?_ fun K Z => ?_
 . (
 simp (decide := true) only [Fact.G, reduceIte, hf.size])
 go_simp
 go_at_call 11; refine (corrupt11 v10 SC kpC.sz kpC.hlen).mono ?_; rintro e v19 ⟨rfl, hc⟩
 rw [kpC.opv knC_right]
 simp only [Bool.not_false]
 replace hbt := hbt.trans (hc.mono hbt.size)
 replace hQB := (hc.block _ (heap_lt hQB)).trans hQB
 replace hrBx := hrBx.later hc
 replace hQE := (hc.block _ (heap_lt hQE)).trans hQE
 replace hrEx := hrEx.later hc
 replace hQH := (hc.block _ (heap_lt hQH)).trans hQH
 replace hrHx := hrHx.later hc
 replace y1 := cL hc y1
 clear hc
 try dsimp only
 apply Z.out; clear Z K
 iterate 2 refine Za ?_
 refine Zg ?_
 refine og 21 206 true ?_ fun K Z => ?_
 . (
 simp (decide := true) only [Fact.G, reduceIte, hf.size])
 go_simp
 go_at_call 11; refine (corrupt11 v19 SD kpD.sz kpD.hlen).mono ?_; rintro e v23 ⟨rfl, hc⟩
 rw [kpD.opv knD_right]
 simp only [Bool.not_false]
 replace hbt := hbt.trans (hc.mono hbt.size)
 replace hQB := (hc.block _ (heap_lt hQB)).trans hQB
 replace hrBx := hrBx.later hc
 replace hQE := (hc.block _ (heap_lt hQE)).trans hQE
 replace hrEx := hrEx.later hc
 replace hQH := (hc.block _ (heap_lt hQH)).trans hQH
 replace hrHx := hrHx.later hc
 replace y1 := cL hc y1
 clear hc
 try dsimp only
 apply Z.out; clear Z K
 iterate 2 refine Za ?_
 refine Zg ?_
 iterate 2 refine Za ?_
 iterate 3 refine Zg ?_
 iterate 2 refine Za ?_
 refine Zg ?_
 refine og 33 218 true ?_ fun K Z => ?_
 . (
 simp (decide := true) only [Fact.G, reduceIte, hf.size])
 go_simp
 go_at_call 11; refine (corrupt11 v23 SF kpF.sz kpF.hlen).mono ?_; rintro e v35 ⟨rfl, hc⟩
 rw [kpF.opv knF_right]
 simp only [Bool.not_false]
 replace hbt := hbt.trans (hc.mono hbt.size)
 replace hQB := (hc.block _ (heap_lt hQB)).trans hQB
 replace hrBx := hrBx.later hc
 replace hQE := (hc.block _ (heap_lt hQE)).trans hQE
 replace hrEx := hrEx.later hc
 replace hQH := (hc.block _ (heap_lt hQH)).trans hQH
 replace hrHx := hrHx.later hc
 replace y1 := cL hc y1
 clear hc
 try dsimp only
 apply Z.out; clear Z K
 iterate 2 refine Za ?_
 refine Zg ?_
 refine og 37 222 true ?_ fun K Z => ?_
 . (
 simp (decide := true) only [Fact.G, reduceIte, hf.size])
 go_simp
 go_at_call 11; refine (corrupt11 v35 SG kpG.sz kpG.hlen).mono ?_; rintro e v39 ⟨rfl, hc⟩
 rw [kpG.opv knG_right]
 simp only [Bool.not_false]
 replace hbt := hbt.trans (hc.mono hbt.size)
 replace hQB := (hc.block _ (heap_lt hQB)).trans hQB
 replace hrBx := hrBx.later hc
 replace hQE := (hc.block _ (heap_lt hQE)).trans hQE
 replace hrEx := hrEx.later hc
 replace hQH := (hc.block _ (heap_lt hQH)).trans hQH
 replace hrHx := hrHx.later hc
 replace y1 := cL hc y1
 clear hc
 try dsimp only
 apply Z.out; clear Z K
 iterate 2 refine Za ?_
 iterate 2 refine Zg ?_
 iterate 2 refine Za ?_
 refine Zg ?_
 refine og 45 230 true ?_ fun K Z => ?_
 . (
 simp (decide := true) only [Fact.G, reduceIte, hf.size])
 go_simp
 go_at_call 11; refine (corrupt11 v39 SI kpI.sz kpI.hlen).mono ?_; rintro e v47 ⟨rfl, hc⟩
 rw [kpI.opv knI_right]
 simp only [Bool.not_false]
 replace hbt := hbt.trans (hc.mono hbt.size)
 replace hQB := (hc.block _ (heap_lt hQB)).trans hQB
 replace hrBx := hrBx.later hc
 replace hQE := (hc.block _ (heap_lt hQE)).trans hQE
 replace hrEx := hrEx.later hc
 replace hQH := (hc.block _ (heap_lt hQH)).trans hQH
 replace hrHx := hrHx.later hc
 replace y1 := cL hc y1
 clear hc
 try dsimp only
 apply Z.out; clear Z K
 iterate 2 refine Za ?_
 iterate 2 refine Zg ?_
 iterate 2 refine Za ?_
 refine Zg ?_
 refine og 53 238 true ?_ fun K Z => ?_
 . (
 simp (decide := true) only [Fact.G, reduceIte, hf.size])
 go_simp
 go_at_call 19; refine (nilLen v47).mono ?_; rintro e v55 ⟨rfl, hc⟩
 replace hbt := hbt.trans (hc.mono hbt.size)
 replace hQB := (hc.block _ (heap_lt hQB)).trans hQB
 replace hrBx := hrBx.later hc
 replace hQE := (hc.block _ (heap_lt hQE)).trans hQE
 replace hrEx := hrEx.later hc
 replace hQH := (hc.block _ (heap_lt hQH)).trans hQH
 replace hrHx := hrHx.later hc
 replace y1 := cL hc y1
 clear hc
 try dsimp only
 apply Z.out; clear Z K
 refine Zg ?_
 iterate 2 refine Za ?_
 refine Zg ?_
 refine og 58 243 true ?_ fun K Z => ?_
 . (
 simp (decide := true) only [Fact.G, reduceIte, hf.size])
 go_simp
 go_at_call 20; refine (nilSize v55).mono ?_; rintro e v60 ⟨rfl, hc⟩
 replace hbt := hbt.trans (hc.mono hbt.size)
 replace hQB := (hc.block _ (heap_lt hQB)).trans hQB
 replace hrBx := hrBx.later hc
 replace hQE := (hc.block _ (heap_lt hQE)).trans hQE
 replace hrEx := hrEx.later hc
 replace hQH := (hc.block _ (heap_lt hQH)).trans hQH
 replace hrHx := hrHx.later hc
 replace y1 := cL hc y1
 clear hc
 try dsimp only
 apply Z.out; clear Z K
 refine Zg ?_
 iterate 2 refine Za ?_
 iterate 2 refine Zg ?_
 iterate 2 refine Za ?_
 refine Zg ?_
 refine og 67 252 true ?_ fun K Z => ?_
 . (
 simp (decide := true) only [Fact.G, reduceIte, hf.size])
 go_simp
 go_at_call 24; refine (nilFrom v60 _ _).mono ?_; rintro e v69 ⟨rfl, hc⟩
 replace hbt := hbt.trans (hc.mono hbt.size)
 replace hQB := (hc.block _ (heap_lt hQB)).trans hQB
 replace hrBx := hrBx.later hc
 replace hQE := (hc.block _ (heap_lt hQE)).trans hQE
 replace hrEx := hrEx.later hc
 replace hQH := (hc.block _ (heap_lt hQH)).trans hQH
 replace hrHx := hrHx.later hc
 replace y1 := cL hc y1
 clear hc
 try dsimp only
 apply Z.out; clear Z K
 iterate 2 refine Zg ?_
 iterate 2 refine Za ?_
 refine Zg ?_
 refine og 73 258 true ?_ fun K Z => ?_
 . (
 simp (decide := true) only [Fact.G, reduceIte, hf.size])
 go_simp
 go_at_call 16; refine (nilAll v69).mono ?_; rintro e v75 ⟨rfl, hc⟩
 replace hbt := hbt.trans (hc.mono hbt.size)
 replace hQB := (hc.block _ (heap_lt hQB)).trans hQB
 replace hrBx := hrBx.later hc
 replace hQE := (hc.block _ (heap_lt hQE)).trans hQE
 replace hrEx := hrEx.later hc
 replace hQH := (hc.block _ (heap_lt hQH)).trans hQH
 replace hrHx := hrHx.later hc
 replace y1 := cL hc y1
 clear hc
 try dsimp only
 apply Z.out; clear Z K
 iterate 2 refine Zg ?_
 iterate 2 refine Za ?_
 refine Zg ?_
 refine og 79 264 true ?_ fun K Z => ?_
 . (
 simp (decide := true) only [Fact.G, reduceIte, hf.size])
 go_simp
 go_at_call 26; refine (nilFst v75).mono ?_; rintro e v81 ⟨rfl, hc⟩
 replace hbt := hbt.trans (hc.mono hbt.size)
 replace hQB := (hc.block _ (heap_lt hQB)).trans hQB
 replace hrBx := hrBx.later hc
 replace hQE := (hc.block _ (heap_lt hQE)).trans hQE
 replace hrEx := hrEx.later hc
 replace hQH := (hc.block _ (heap_lt hQH)).trans hQH
 replace hrHx := hrHx.later hc
 replace y1 := cL hc y1
 clear hc
 try dsimp only
 apply Z.out; clear Z K
 iterate 3 refine Zg ?_
 iterate 2 refine Za ?_
 refine Fact.nil (Zq1 0 hf ?_)
 clear hf sS bB; intro fr1 hf s0
 refine Zx hK31 ?_
 refine Zret ?_
 exact Fact.ret1 rfl hf s0 ⟨rfl, hbt⟩))
end Dw
open Go.ChangeShapes Go.WideShapes Go.ChangeAt Go.RowKit Go.Deep
theorem Own.own : ownKnob Tryz.prog.godebug = none := by kernel_rfl
theorem own_end {H : Type} {enc : TypeId × Value -> H} {f : Func} {s : ChangeSpec} {fresh handsOn again : Bool} {W W' : World} {args : Array Value} {ds : List (DataW H)} {before : List MemPlace}
  (hv : s.vars = []) (ht : f.resultTypes = #[4]) (hf : s.fn H ds = { results := [.lit (.bool true)], args := ds })
  (hW : DataW.Whole enc Tryz.prog f.params.toList s.vars false W args.toList ds [] before) (hb : Below W.heap.size W W')
  (hargs : ∀ sp : Nat -> Bool, (∀ p ∈ before, sp p.block = true) -> DataW.TrodAll enc Tryz.prog W' 0 sp true f.params.toList args.toList ds before) :
  s.post enc Tryz.prog f false fresh handsOn again W args (.bool true) W' := by
 have hlt : ∀ p ∈ before, p.block < W.heap.size := fun p hp => hW.lt p hp
 have hold : ∀ p ∈ before, (fun b => decide (b < W.heap.size)) p.block = true := fun p hp => by simpa using hlt p hp
 have hres : ∀ (b : Nat) (sp : Nat -> Bool) (hd : Bool), DataW.TrodAll enc Tryz.prog W' b sp hd f.resultTypes.toList ((Value.bool true).resultList f.resultTypes.size) (s.fn H (ds ++ [])).results [] := fun b sp hd => by
  rw [ht, List.append_nil, hf]
  exact trodAll_mk1 ⟨1, by simp [DataW.trod, Value.cells, Tryz.underlying4]⟩
 have hvars : ∀ sp : Nat -> Bool, DataW.TrodVars enc Tryz.prog W' sp s.vars (s.fn H (ds ++ [])).vars [] := fun sp => by
  rw [List.append_nil, hf, hv]; rfl
 have ha2 : ∀ sp : Nat -> Bool, (∀ p ∈ before, sp p.block = true) -> DataW.TrodAll enc Tryz.prog W' 0 sp true f.params.toList args.toList (s.fn H (ds ++ [])).args before := fun sp hsp => by
  rw [List.append_nil, hf]; exact hargs sp hsp
 refine ⟨ds, [], before, [], before, [], hW, hres _ _ _, ha2 _ hold, hvars _, World.keptBut_mono (fun p hp => ⟨hp, ?_⟩) (hb.frame (. ∈ before)), fun _ => ?_⟩
 ·exact .inr (.inl hp)
 ·obtain ⟨_, _, _, _, _, hz, hn⟩ := hW
  refine ⟨?_, _, _, ([] ++ before) ++ [], ⟨[] ++ before, [], trodAll_append (ha2 _ (fun _ _ => rfl)) (hres _ _ _), hvars _, rfl, ?_, ?_⟩, ?_⟩
  ·rw [ht]
   intro j t r h1 h2
   match j, h1, h2 with
   | 0, h1, h2 =>
    injection h1 with h1
    subst h1
    have : r = .bool true := by
     have h3 : some (Value.bool true) = some r := h2
     injection h3 with h3
     exact h3.symm
    subst this
    simp [Value.okWide, Tryz.underlying4, Cell.okWide, Cell.ok]
   | j + 1, h1, h2 => simp at h1
  ·intro b off hp
   have hin : MemPlace.cell b off ∈ before := by simpa using hp
   rw [hb.frozen (hlt _ hin)]
   exact hz b off hin
  ·intro ha
   cases ha
  ·intro p hp _
   simpa using hp
open Go.ChangeShapes Go.WideShapes Go.ChangeAt Go.RowKit
def lay3 : List (String × DataW Unit) := [("math/bits.deBruijn32tab", Rows.laid_math_bits_deBruijn32tab), ("math/bits.deBruijn64tab", Rows.laid_math_bits_deBruijn64tab), ("internal/strconv.uint64pow10", Rows.laid_internal_strconv_uint64pow10)]
theorem door_met (os : Os) (args : Array Value) : laidMetH Tryz.prog lay3 ((World.doorLaid Tryz.prog 24 os).forCall (fun _ _ => 0) ⟨#[], args, []⟩).memory :=
 laidMetH_of_parts3 (fuel := 8) (laidMet_of_run' 8 (by kernel_rfl) (by kernel_rfl)) (by kernel_rfl) (by kernel_rfl)
end Go.Proofs.YtcddnmhmcieebaaGreatDoor
