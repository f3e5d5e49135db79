/- pack: fails. -/
import Derived.Test.YtdkbgbdgmihlmaaGreatDoorPTold
import Derived.Test.YtdkbgbdgmihlmaaGreatDoorQH
import Derived.Test.YtdkbgbdgmihlmaaGreatDoorTools
namespace Go.Proofs.YtdkbgbdgmihlmaaGreatDoor
open Go.RowKit
set_option linter.unusedSimpArgs false
set_option linter.unusedVariables false
set_option linter.unnecessarySimpa false
namespace Dw

theorem openR_some (l : List Nat) : openR (some l) = (bl l, true) := rfl
theorem pGet_seal (s : ByteArray) : pGet (bl (Crc.seal' (wl s))) = pAll s := by
  have hs : Small (Crc.seal' (wl s)) := by
    intro x hx
    rcases List.mem_append.1 hx with h | h
    · exact wl_lt s x h
    · simp [Crc.four] at h; omega
  unfold pGet
  rw [wl_bl hs, Crc.opened_seal, openR_some, bl_wl]
  rfl
set_option maxHeartbeats 4000000 in
set_option maxRecDepth 100000 in
theorem fails22 (w : World) (s : ByteArray) (hsz : s.size ≤ 899999990) (c d : Nat) (hc : c ≠ 0) (hp : pAll s = .error (c, d)) (hE : ETy w) : Calls Tryz.prog 18 #[.string s, .int .i64 c, .int .i64 d] w fun e w1 => e = .returned (.bool true) ∧ Below w.heap.size w w1 := by
 refine calls_of_wp Tryz.func18 rfl ?_
 refine Fact.en 32 fun fr hf hT => ?_
 have s0 := hT 0 _ rfl
 have s1 := hT 1 _ rfl
 have s2 := hT 2 _ rfl
 clear hT
 have HP := Lib.hid hp; clear hp
 refine Fact.sq fun K1 hK1 => ?_
 refine rg ?_
 refine fp fun K Z => ?_
 go_simp
 apply Z.out; clear Z K
 refine Fact.z hf fun fr1 hf1 hT => ?_
 have hKp : _ ∧ _ ∧ _ := ⟨hT 0, hT 1, hT 2⟩
 simp (decide := true) only [Fact.G, reduceIte, s0, s1, s2] at hKp
 replace hf := hf1; clear hT hf1 s0 s1 s2
 obtain ⟨s0, s1, s2⟩ := hKp
 refine nx (hK1 _ _ ?_)
 refine Fact.sq fun K2 hK2 => ?_
 refine rg ?_
 have b11 := hf.b 11
 have b12 := hf.b 12
 have b13 := hf.b 13
 have b10 := hf.b 10
 have b14 := hf.b 14
 have b15 := hf.b 15
 have b16 := hf.b 16
 have b8 := hf.b 8
 refine fp fun K Z => ?_
 go_simp
 apply Z.out; clear Z K
 refine fp fun K Z => ?_
 go_simp
 go_at_call 16; refine (seal17 w s (by omega)).mono ?_; rintro e w1 ⟨rfl, hb1⟩
 try dsimp only
 apply Z.out; clear Z K
 refine fp fun K Z => ?_
 go_simp
 go_at_call 8; refine (get15 w1 (bl (Crc.seal' (wl s))) (by rw [bl_size, Crc.seal_length, wl_length]; omega)).mono ?_; rintro e w2 hget
 rw [pGet_seal, HP.out] at hget
 obtain ⟨q, rfl, hq1, hq2, hb2⟩ := hget
 try dsimp only at hq2
 have hqlt := heap_lt hq2
 have hb02 := hb1.trans (hb2.mono hb1.size)
 have hE2 := cL hb02 hE
 try dsimp only
 apply Z.out; clear Z K
 iterate 4 (refine fp fun K Z => ?_; go_simp; apply Z.out; clear Z K)
 refine fp fun K Z => ?_
 go_simp
 skip
 apply Z.out; clear Z K
 iterate 3 (refine fp fun K Z => ?_; go_simp; apply Z.out; clear Z K)
 refine Fact.z hf fun fr1 hf1 hT => ?_
 have hKp : _ ∧ _ ∧ _ ∧ _ ∧ _ := ⟨hT 1, hT 2, hT 7, hT 8, hT 9⟩
 simp (decide := true) only [Fact.G, hf.size, reduceIte, s1, s2] at hKp
 replace hf := hf1; clear hT hf1 s0 s1 s2 b11 b12 b13 b10 b14 b15 b16 b8
 obtain ⟨s1, s2, s7, s8, s9⟩ := hKp
 obtain ⟨W3, hW3⟩ : ∃ W0, w2.alloc (.cells #[.slice none 0 0, .int .u64 0] 33) = W0 := ⟨_, rfl⟩
 try rw [hW3]
 obtain ⟨hb3, d0, -, -, -⟩ := box2 hW3
 clear hW3
 have hq3 := (hb3.block q hqlt).trans hq2
 have hE3 := cL hb3 hE2
 have hb03 := hb02.trans (hb3.mono hb02.size)
 clear hq2
 refine nx (hK2 _ _ ?_)
 refine Fact.sq fun K3 hK3 => ?_
 refine rg ?_
 have b17 := hf.b 17
 have b18 := hf.b 18
 have b19 := hf.b 19
 have b20 := hf.b 20
 have b21 := hf.b 21
 have b22 := hf.b 22
 have b23 := hf.b 23
 have b24 := hf.b 24
 have b25 := hf.b 25
 have b26 := hf.b 26
 have b27 := hf.b 27
 have b28 := hf.b 28
 have b29 := hf.b 29
 have b30 := hf.b 30
 have b31 := hf.b 31
 iterate 3 (refine fp fun K Z => ?_; go_simp; apply Z.out; clear Z K)
 refine og 2 19 true ?_ fun K Z => ?_
 · (
 simp (decide := true) only [Fact.G, reduceIte, hf.size])
 go_simp
 apply Z.out; clear Z K
 refine og 2 19 true ?_ fun K Z => ?_
 · (
 simp (decide := true) only [Fact.G, reduceIte, hf.size])
 go_simp
 apply Z.out; clear Z K
 refine og 2 19 true ?_ fun K Z => ?_
 · (
 simp (decide := true) only [Fact.G, reduceIte, hf.size])
 go_simp
 apply Z.out; clear Z K
 refine og 2 19 true ?_ fun K Z => ?_
 · (
 simp (decide := true) only [Fact.G, reduceIte, hf.size])
 go_simp
 apply Z.out; clear Z K
 iterate 2 (refine fp fun K Z => ?_; go_simp; apply Z.out; clear Z K)
 refine og 8 25 true ?_ fun K Z => ?_
 · (
 simp (decide := true) only [Fact.G, reduceIte, hf.size])
 go_simp
 apply Z.out; clear Z K
 refine og 8 25 true ?_ fun K Z => ?_
 · (
 simp (decide := true) only [Fact.G, reduceIte, hf.size])
 go_simp
 apply Z.out; clear Z K
 refine og 8 25 true ?_ fun K Z => ?_
 · (
 simp (decide := true) only [Fact.G, reduceIte, hf.size])
 go_simp
 apply Z.out; clear Z K
 refine og 8 25 true ?_ fun K Z => ?_
 · (
 simp (decide := true) only [Fact.G, reduceIte, hf.size])
 go_simp
 apply Z.out; clear Z K
 refine og 8 25 true ?_ fun K Z => ?_
 · (
 simp (decide := true) only [Fact.G, reduceIte, hf.size])
 go_simp
 go_at_call 17; refine (told_yes W3 q c d c d hq3 hE3 (by omega) ⟨rfl, rfl⟩).mono ?_; rintro e w4 ⟨rfl, hb4⟩
 try rw [beq_self_eq_true]
 try dsimp only
 apply Z.out; clear Z K
 iterate 2 (refine fp fun K Z => ?_; go_simp; apply Z.out; clear Z K)
 refine Fact.z hf fun fr1 hf1 hT => ?_
 have hKp := hT 6
 simp (decide := true) only [Fact.G, hf.size, reduceIte] at hKp
 replace hf := hf1; clear hT hf1 s1 s2 s7 s8 s9 b17 b18 b19 b20 b21 b22 b23 b24 b25 b26 b27 b28 b29 b30 b31
 have s6 := hKp; clear hKp
 refine nx (hK3 _ _ ?_)
 refine wp_ret ?_
 exact Fact.ret1 rfl hf s6 ⟨rfl, hb03.trans (hb4.mono hb03.size)⟩
end Dw
end Go.Proofs.YtdkbgbdgmihlmaaGreatDoor

namespace Go.Proofs.YtdkbgbdgmihlmaaGreatDoor
open Go.RowKit
set_option linter.unusedSimpArgs false
set_option linter.unusedVariables false
set_option linter.unnecessarySimpa false
namespace Dw
theorem bodyB_small' {en init : Nat} {ss : List State} (hok : ∀ s ∈ ss, okS s) (hm : mayL 0 ss = true) (hl : ss.length ≤ 100000) (hen : en ≤ 100000) (hi : init < M64) : Small (bodyB en init ss) := bodyB_small hok hm hl hen hi
theorem pGet_body {en init : Nat} {ss : List State} (hen : en ≤ 100000) (hok : ∀ s ∈ ss, okS s) (h0 : 0 < ss.length) (hm : mayL 0 ss = true) (hl : ss.length ≤ 100000) (hi : init < M64) : pGet (bl (Crc.seal' (bodyB en init ss))) = .ok (en, init, ss) := by
  have hs := bodyB_small' hok hm hl hen hi
  have h1 := pGet_seal (bl (bodyB en init ss))
  rw [wl_bl hs] at h1
  rw [h1]
  exact pAll_put hen hok h0 hm (by omega) hi (wl_bl hs)
theorem pGet_put {en : Int} {init : Nat} {ss : List State} (h : mayF en ss = true) (hok : ∀ s ∈ ss, okS s) (hl : ss.length ≤ 100000) (hi : init < M64) : pGet (bl (putR en init ss).1) = .ok (en.toNat, init, ss) := by
  obtain ⟨h1, h2, h3, h4⟩ := may_out h
  unfold putR
  rw [if_pos h]
  exact pGet_body (by omega) hok h3 h4 hl hi
end Dw
end Go.Proofs.YtdkbgbdgmihlmaaGreatDoor
