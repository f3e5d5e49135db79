/- pack: works. -/
import Derived.Test.YtdkbgbdgmihlmaaGreatDoorQJ
import Derived.Test.YtdkbgbdgmihlmaaGreatDoorQH
import Derived.Test.YtdkbgbdgmihlmaaGreatDoorTools
namespace Go.Proofs.YtdkbgbdgmihlmaaGreatDoor
open Go.RowKit
set_option linter.unusedSimpArgs false
set_option linter.unusedVariables false
set_option linter.unnecessarySimpa false
namespace Dw
set_option maxHeartbeats 4000000 in
set_option maxRecDepth 100000 in
theorem works13 (w : World) (hE : ETy w) : Calls Tryz.prog 4 #[] w fun e w1 => e = .returned (.bool true) ∧ Below w.heap.size w w1 := by
 refine calls_of_wp Tryz.func4 rfl ?_
 refine Fact.en 57 fun fr hf hT => ?_
 clear hT
 have hbt := Below.refl w.heap.size w
 refine Fact.sq fun K1 hK1 => ?_
 refine rg ?_
 refine fp fun K Z => ?_
 go_simp
 apply Z.out; clear Z K
 refine Fact.z hf fun fr1 hf1 hT => ?_
 replace hf := hf1; clear hT hf1
 refine nx (hK1 _ _ ?_)
 refine Fact.sq fun K2 hK2 => ?_
 refine rg ?_
 have b9 := hf.b 9
 have b10 := hf.b 10
 have b11 := hf.b 11
 have b12 := hf.b 12
 have b8 := hf.b 8
 have b13 := hf.b 13
 have b14 := hf.b 14
 refine fp fun K Z => ?_
 go_simp
 apply Z.out; clear Z K
 refine fp fun K Z => ?_
 go_simp
 obtain ⟨V1, hV1⟩ : ∃ x, World.alloc w (.cells #[.slice none 0 0, .bool false, .int .u64 0] 58) = x := ⟨_, rfl⟩
 rw [hV1]
 obtain ⟨bV1, x10⟩ := RS.lit hV1 [(.slice none 0 0, ⟨false, 0, []⟩)] rfl (fun x hx => by simp only [List.mem_cons, List.not_mem_nil, or_false] at hx; subst hx; all_goals first | exact RA.nil_)
 replace hbt := hbt.trans (bV1.mono hbt.size)
 replace hE := cL bV1 hE
 clear hV1
 apply Z.out; clear Z K
 refine fp fun K Z => ?_
 go_simp
 apply Z.out; clear Z K
 refine fp fun K Z => ?_
 go_simp
 go_at_call 7; refine (put14 V1 0 _ 0 [⟨false, 0, []⟩] x10 (okS_all _ (by kernel_rfl)) (by decide) (few_all _ (by kernel_rfl)) (by decide)).mono ?_; rintro e w1 ⟨rfl, hb1⟩
 rw [show putR 0 0 [⟨false, 0, []⟩] = (Crc.seal' [67, 83, 1, 0, 1, 0, 0], 0) by unfold putR; rw [if_pos (by kernel_rfl)]; rfl]
 obtain ⟨SA, hSA⟩ : ∃ x, bl (Crc.seal' [67, 83, 1, 0, 1, 0, 0]) = x := ⟨_, rfl⟩
 dsimp only
 rw [hSA]
 have HSA := Lib.hid hSA; clear hSA
 replace hbt := hbt.trans (hb1.mono hbt.size)
 replace hE := cL hb1 hE
 replace x10 := x10.later hb1
 clear x10
 try dsimp only
 apply Z.out; clear Z K
 iterate 5 (refine fp fun K Z => ?_; go_simp; apply Z.out; clear Z K)
 refine Fact.z hf fun fr1 hf1 hT => ?_
 have hKp : _ ∧ _ := ⟨hT 1, hT 2⟩
 simp (decide := true) only [Fact.G, hf.size, reduceIte] at hKp
 replace hf := hf1; clear hT hf1 b9 b10 b11 b12 b8 b13 b14
 obtain ⟨s1, s2⟩ := hKp
 refine nx (hK2 _ _ ?_)
 refine Fact.sq fun K3 hK3 => ?_
 refine rg ?_
 have b16 := hf.b 16
 have b17 := hf.b 17
 have b18 := hf.b 18
 have b19 := hf.b 19
 have b20 := hf.b 20
 have b21 := hf.b 21
 have b22 := hf.b 22
 have b15 := hf.b 15
 have b23 := hf.b 23
 have b24 := hf.b 24
 iterate 2 (refine fp fun K Z => ?_; go_simp; apply Z.out; clear Z K)
 refine fp fun K Z => ?_
 go_simp
 obtain ⟨V2, hV2⟩ : ∃ x, World.alloc w1 (.cells #[.int .u8 97, .int .u64 0, .int .i64 (0)] 60) = x := ⟨_, rfl⟩
 rw [hV2]
 obtain ⟨bV2, x18⟩ := RA.lit hV2 [⟨97, 0, 0⟩] rfl
 replace hbt := hbt.trans (bV2.mono hbt.size)
 replace hE := cL bV2 hE
 clear hV2
 apply Z.out; clear Z K
 refine fp fun K Z => ?_
 go_simp
 apply Z.out; clear Z K
 refine fp fun K Z => ?_
 go_simp
 obtain ⟨V3, hV3⟩ : ∃ x, World.alloc V2 (.cells #[.slice none 0 0, .bool true, .int .u64 0, .slice (some ⟨w1.heap.size, 0, none⟩) 1 1, .bool false, .int .u64 0] 58) = x := ⟨_, rfl⟩
 rw [hV3]
 obtain ⟨bV3, x20⟩ := RS.lit hV3 [(.slice none 0 0, ⟨true, 0, []⟩), (.slice (some ⟨w1.heap.size, 0, none⟩) 1 1, ⟨false, 0, [⟨97, 0, 0⟩]⟩)] rfl (fun x hx => by simp only [List.mem_cons, List.not_mem_nil, or_false] at hx; rcases hx with rfl | rfl; all_goals first | exact RA.nil_ | exact x18)
 replace hbt := hbt.trans (bV3.mono hbt.size)
 replace hE := cL bV3 hE
 replace x18 := x18.later bV3
 clear hV3
 apply Z.out; clear Z K
 refine fp fun K Z => ?_
 go_simp
 apply Z.out; clear Z K
 refine fp fun K Z => ?_
 go_simp
 go_at_call 7; refine (put14 V3 1 _ 5 [⟨true, 0, []⟩, ⟨false, 0, [⟨97, 0, 0⟩]⟩] x20 (okS_all _ (by kernel_rfl)) (by decide) (few_all _ (by kernel_rfl)) (by decide)).mono ?_; rintro e w2 ⟨rfl, hb2⟩
 rw [show putR 1 5 [⟨true, 0, []⟩, ⟨false, 0, [⟨97, 0, 0⟩]⟩] = (Crc.seal' [67, 83, 1, 1, 2, 1, 0, 2, 97, 0, 1, 5], 0) by unfold putR; rw [if_pos (by kernel_rfl)]; rfl]
 obtain ⟨SB, hSB⟩ : ∃ x, bl (Crc.seal' [67, 83, 1, 1, 2, 1, 0, 2, 97, 0, 1, 5]) = x := ⟨_, rfl⟩
 dsimp only
 rw [hSB]
 have HSB := Lib.hid hSB; clear hSB
 replace hbt := hbt.trans (hb2.mono hbt.size)
 replace hE := cL hb2 hE
 replace x18 := x18.later hb2
 replace x20 := x20.later hb2
 clear x20
 try dsimp only
 apply Z.out; clear Z K
 iterate 5 (refine fp fun K Z => ?_; go_simp; apply Z.out; clear Z K)
 refine Fact.z hf fun fr1 hf1 hT => ?_
 have hKp : _ ∧ _ ∧ _ ∧ _ := ⟨hT 1, hT 2, hT 3, hT 4⟩
 simp (decide := true) only [Fact.G, hf.size, reduceIte, s1, s2] at hKp
 replace hf := hf1; clear hT hf1 s1 s2 b16 b17 b18 b19 b20 b21 b22 b15 b23 b24
 obtain ⟨s1, s2, s3, s4⟩ := hKp
 refine nx (hK3 _ _ ?_)
 refine Fact.sq fun K4 hK4 => ?_
 refine rg ?_
 have b26 := hf.b 26
 have b25 := hf.b 25
 have b27 := hf.b 27
 have b28 := hf.b 28
 have b29 := hf.b 29
 have b6 := hf.b 6
 refine fp fun K Z => ?_
 go_simp
 go_at_call 8; refine (get15 w2 ⟨#[]⟩ (by decide)).mono ?_; rintro e w3 hget
 rw [show pGet ⟨#[]⟩ = .error (16, 0) by kernel_rfl] at hget
 obtain ⟨q, rfl, hq1, hq2, hb3⟩ := hget
 dsimp only at hq2
 have hqlt := heap_lt hq2
 replace hbt := hbt.trans (hb3.mono hbt.size)
 replace hE := cL hb3 hE
 try dsimp only
 apply Z.out; clear Z K
 iterate 8 (refine fp fun K Z => ?_; go_simp; apply Z.out; clear Z K)
 refine Fact.z hf fun fr1 hf1 hT => ?_
 have hKp : _ ∧ _ ∧ _ ∧ _ ∧ _ := ⟨hT 1, hT 2, hT 3, hT 4, hT 7⟩
 simp (decide := true) only [Fact.G, hf.size, reduceIte, s1, s2, s3, s4] at hKp
 replace hf := hf1; clear hT hf1 s1 s2 s3 s4 b26 b25 b27 b28 b29 b6
 obtain ⟨s1, s2, s3, s4, s7⟩ := hKp
 obtain ⟨W4, hW4⟩ : ∃ W0, w3.alloc (.cells #[.slice none 0 0, .int .u64 0] 33) = W0 := ⟨_, rfl⟩
 try rw [hW4]
 obtain ⟨hb4, -, -, -, -⟩ := box2 hW4
 clear hW4
 replace hbt := hbt.trans (hb4.mono hbt.size)
 replace hE := cL hb4 hE
 have hq4 := (hb4.block q hqlt).trans hq2
 clear hq2
 have hq0 : q < W4.heap.size := heap_lt hq4
 refine nx (hK4 _ _ ?_)
 refine Fact.sq fun K5 hK5 => ?_
 refine rg ?_
 have b30 := hf.b 30
 have b31 := hf.b 31
 have b32 := hf.b 32
 have b33 := hf.b 33
 have b34 := hf.b 34
 have b35 := hf.b 35
 have b36 := hf.b 36
 have b37 := hf.b 37
 have b38 := hf.b 38
 have b39 := hf.b 39
 have b40 := hf.b 40
 have b41 := hf.b 41
 have b42 := hf.b 42
 have b43 := hf.b 43
 have b44 := hf.b 44
 have b45 := hf.b 45
 have b46 := hf.b 46
 have b47 := hf.b 47
 have b48 := hf.b 48
 have b49 := hf.b 49
 have b50 := hf.b 50
 have b51 := hf.b 51
 have b52 := hf.b 52
 have b53 := hf.b 53
 have b54 := hf.b 54
 have b55 := hf.b 55
 have b56 := hf.b 56
 iterate 3 (refine fp fun K Z => ?_; go_simp; apply Z.out; clear Z K)
 refine og 2 32 true ?_ fun K Z => ?_
 · (
 simp (decide := true) only [Fact.G, reduceIte, hf.size])
 go_simp
 apply Z.out; clear Z K
 refine og 2 32 true ?_ fun K Z => ?_
 · (
 simp (decide := true) only [Fact.G, reduceIte, hf.size])
 go_simp
 go_at_call 16; refine (seal17 W4 ⟨#[67, 83, 1, 0, 1, 0, 0]⟩ (by decide)).mono ?_; rintro e v4 ⟨rfl, hc4⟩
 rw [show wl ⟨#[67, 83, 1, 0, 1, 0, 0]⟩ = [67, 83, 1, 0, 1, 0, 0] by kernel_rfl, HSA.out]
 replace hbt := hbt.trans (hc4.mono hbt.size)
 replace hE := cL hc4 hE
 replace hq4 := (hc4.block q (heap_lt hq4)).trans hq4
 try dsimp only
 apply Z.out; clear Z K
 refine og 2 32 true ?_ fun K Z => ?_
 · (
 simp (decide := true) only [Fact.G, reduceIte, hf.size])
 go_simp
 apply Z.out; clear Z K
 iterate 2 (refine fp fun K Z => ?_; go_simp; apply Z.out; clear Z K)
 refine og 7 37 true ?_ fun K Z => ?_
 · (
 simp (decide := true) only [Fact.G, reduceIte, hf.size])
 go_simp
 apply Z.out; clear Z K
 refine og 7 37 true ?_ fun K Z => ?_
 · (
 simp (decide := true) only [Fact.G, reduceIte, hf.size])
 go_simp
 apply Z.out; clear Z K
 iterate 2 (refine fp fun K Z => ?_; go_simp; apply Z.out; clear Z K)
 refine og 11 41 true ?_ fun K Z => ?_
 · (
 simp (decide := true) only [Fact.G, reduceIte, hf.size])
 go_simp
 apply Z.out; clear Z K
 refine og 11 41 true ?_ fun K Z => ?_
 · (
 simp (decide := true) only [Fact.G, reduceIte, hf.size])
 go_simp
 go_at_call 16; refine (seal17 v4 ⟨#[67, 83, 1, 1, 2, 1, 0, 2, 97, 0, 1, 5]⟩ (by decide)).mono ?_; rintro e v13 ⟨rfl, hc13⟩
 rw [show wl ⟨#[67, 83, 1, 1, 2, 1, 0, 2, 97, 0, 1, 5]⟩ = [67, 83, 1, 1, 2, 1, 0, 2, 97, 0, 1, 5] by kernel_rfl, HSB.out]
 replace hbt := hbt.trans (hc13.mono hbt.size)
 replace hE := cL hc13 hE
 replace hq4 := (hc13.block q (heap_lt hq4)).trans hq4
 try dsimp only
 apply Z.out; clear Z K
 refine og 11 41 true ?_ fun K Z => ?_
 · (
 simp (decide := true) only [Fact.G, reduceIte, hf.size])
 go_simp
 apply Z.out; clear Z K
 iterate 2 (refine fp fun K Z => ?_; go_simp; apply Z.out; clear Z K)
 refine og 16 46 true ?_ fun K Z => ?_
 · (
 simp (decide := true) only [Fact.G, reduceIte, hf.size])
 go_simp
 apply Z.out; clear Z K
 refine og 16 46 true ?_ fun K Z => ?_
 · (
 simp (decide := true) only [Fact.G, reduceIte, hf.size])
 go_simp
 apply Z.out; clear Z K
 refine og 16 46 true ?_ fun K Z => ?_
 · (
 simp (decide := true) only [Fact.G, reduceIte, hf.size])
 go_simp
 go_at_call 17; refine (told_yes v13 q 16 0 16 0 hq4 hE (by decide) ⟨rfl, rfl⟩).mono ?_; rintro e v19 ⟨rfl, hc19⟩
 replace hbt := hbt.trans (hc19.mono hbt.size)
 replace hE := cL hc19 hE
 replace hq4 := (hc19.block q (heap_lt hq4)).trans hq4
 try dsimp only
 apply Z.out; clear Z K
 iterate 2 (refine fp fun K Z => ?_; go_simp; apply Z.out; clear Z K)
 refine og 21 51 true ?_ fun K Z => ?_
 · (
 simp (decide := true) only [Fact.G, reduceIte, hf.size])
 go_simp
 go_at_call 18; refine (fails22 v19 ⟨#[]⟩ (by decide) 3 0 (by decide) (by kernel_rfl) hE).mono ?_; rintro e v22 ⟨rfl, hc22⟩
 replace hbt := hbt.trans (hc22.mono hbt.size)
 replace hE := cL hc22 hE
 replace hq4 := (hc22.block q (heap_lt hq4)).trans hq4
 try dsimp only
 apply Z.out; clear Z K
 iterate 2 (refine fp fun K Z => ?_; go_simp; apply Z.out; clear Z K)
 refine og 24 54 true ?_ fun K Z => ?_
 · (
 simp (decide := true) only [Fact.G, reduceIte, hf.size])
 go_simp
 go_at_call 18; refine (fails22 v22 ⟨#[67, 83, 2]⟩ (by decide) 6 2 (by decide) (by kernel_rfl) hE).mono ?_; rintro e v25 ⟨rfl, hc25⟩
 replace hbt := hbt.trans (hc25.mono hbt.size)
 replace hE := cL hc25 hE
 replace hq4 := (hc25.block q (heap_lt hq4)).trans hq4
 try dsimp only
 apply Z.out; clear Z K
 iterate 2 (refine fp fun K Z => ?_; go_simp; apply Z.out; clear Z K)
 refine Fact.z hf fun fr1 hf1 hT => ?_
 have hKp := hT 0
 simp (decide := true) only [Fact.G, hf.size, reduceIte] at hKp
 replace hf := hf1; clear hT hf1 s1 s2 s3 s4 s7 b30 b31 b32 b33 b34 b35 b36 b37 b38 b39 b40 b41 b42 b43 b44 b45 b46 b47 b48 b49 b50 b51 b52 b53 b54 b55 b56
 have s0 := hKp; clear hKp
 refine nx (hK5 _ _ ?_)
 refine wp_ret ?_
 exact Fact.ret1 rfl hf s0 ⟨rfl, hbt⟩
end Dw
end Go.Proofs.YtdkbgbdgmihlmaaGreatDoor
