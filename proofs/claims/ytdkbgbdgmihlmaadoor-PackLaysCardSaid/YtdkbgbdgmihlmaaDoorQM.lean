/- cedillaref01: Sum. -/
import Derived.Test.YtdkbgbdgmihlmaaDoorQB
import Derived.Test.YtdkbgbdgmihlmaaDoorTools
import Derived.Test.YtdkbgbdgmihlmaaDoorPBackF
namespace Go.Proofs.YtdkbgbdgmihlmaaDoor
open Go.RowKit
set_option linter.unusedSimpArgs false
set_option linter.unusedVariables false
set_option linter.unnecessarySimpa false
namespace Dw

end Dw
namespace Crc
/-- so many bits of a byte, the lowest first -/
def bitsRun (n c : Nat) : Nat → Nat
  | 0 => n
  | k + 1 => bit (bitsRun n c k) (c / 2 ^ k % 2)
theorem bitsRun8 (n c : Nat) : bitsRun n c 8 = byte n c := by
  simp only [bitsRun, byte, Nat.pow_zero, Nat.div_one, Nat.reducePow]
theorem bit_lt {n b : Nat} (hn : n < 4294967296) : bit n b < 4294967296 := by
  unfold bit
  split
  · omega
  · exact Nat.xor_lt_two_pow (n := 32) (by omega) (by decide)
end Crc
namespace Dw
set_option maxHeartbeats 4000000 in
set_option maxRecDepth 100000 in
theorem rturned (w : World) (n : Nat) (hn : n < 4294967296) : Calls Tryd.prog 42 #[.int .u32 n] w fun e w1 => e = .returned (.int .u32 (4294967295 - n : Nat)) ∧ w1 = w := by
 refine calls_of_wp Tryd.func42 rfl ?_
 refine Fact.en 5 fun fr hf hT => ?_
 have s0 := hT 0 _ rfl
 clear hT
 refine Fact.sq fun K1 hK1 => ?_
 refine rg ?_
 refine fp fun K Z => ?_
 go_simp
 apply Z.out; clear Z K
 refine Fact.z hf fun fr1 hf1 hT => ?_
 have hKp := hT 0
 simp (decide := true) only [Fact.G, reduceIte, s0] at hKp
 replace hf := hf1; clear hT hf1 s0
 have s0 := hKp; clear hKp
 refine nx (hK1 _ _ ?_)
 refine Fact.sq fun K2 hK2 => ?_
 refine rg ?_
 have b3 := hf.b 3
 have b4 := hf.b 4
 refine fp fun K Z => ?_
 go_simp
 apply Z.out; clear Z K
 refine fp fun K Z => ?_
 go_simp
 try simp (disch := omega) only [Fact.W]
 rw [show (4294967295 : Int) - ((n : Nat) : Int) = ((4294967295 - n : Nat) : Int) by omega]
 apply Z.out; clear Z K
 refine fp fun K Z => ?_
 go_simp
 apply Z.out; clear Z K
 refine Fact.z hf fun fr1 hf1 hT => ?_
 have hKp := hT 2
 simp (decide := true) only [Fact.G, hf.size, reduceIte] at hKp
 replace hf := hf1; clear hT hf1 s0 b3 b4
 have s2 := hKp; clear hKp
 refine nx (hK2 _ _ ?_)
 refine wp_ret ?_
 exact Fact.ret1 rfl hf s2 ⟨rfl, rfl⟩
set_option maxHeartbeats 4000000 in
set_option maxRecDepth 100000 in
theorem rbit (w : World) (n b : Nat) (hn : n < 4294967296) (hb : b < 2) : Calls Tryd.prog 43 #[.int .u32 n, .int .u32 b] w fun e w1 => e = .returned (.int .u32 (Crc.bit n b : Nat)) ∧ w1 = w := by
 refine calls_of_wp Tryd.func43 rfl ?_
 refine Fact.en 16 fun fr hf hT => ?_
 have s0 := hT 0 _ rfl
 have s1 := hT 1 _ rfl
 clear hT
 obtain ⟨r, hr⟩ : ∃ x, n % 2 = x := ⟨_, rfl⟩
 obtain ⟨h, hh⟩ : ∃ x, n / 2 = x := ⟨_, rfl⟩
 have hh32 : h < 4294967296 := by omega
 have HR := Lib.hid hr; have HH := Lib.hid hh; clear hr hh
 by_cases hrb : r = b
 · (
 have HB := Lib.hid hrb; clear hrb
 have q1 : ((r : Int) != (b : Int)) = false := by have := HB.out; simp; omega
 refine Fact.sq fun K1 hK1 => ?_
 refine rg ?_
 refine fp fun K Z => ?_
 go_simp
 apply Z.out; clear Z K
 refine Fact.z hf fun fr1 hf1 hT => ?_
 have hKp : _ ∧ _ := ⟨hT 0, hT 1⟩
 simp (decide := true) only [Fact.G, reduceIte, s0, s1] at hKp
 replace hf := hf1; clear hT hf1 s0 s1
 obtain ⟨s0, s1⟩ := hKp
 refine nx (hK1 _ _ ?_)
 refine Fact.sq fun K2 hK2 => ?_
 refine rg ?_
 have b6 := hf.b 6
 have b7 := hf.b 7
 have b8 := hf.b 8
 have b9 := hf.b 9
 refine fp fun K Z => ?_
 go_simp
 apply Z.out; clear Z K
 refine fp fun K Z => ?_
 go_simp
 rw [show ((n : Nat) : Int).tmod 2 = ((r : Nat) : Int) by rw [Int.tmod_eq_emod_of_nonneg (by omega)]; have := HR.out; omega]
 apply Z.out; clear Z K
 refine fp fun K Z => ?_
 go_simp
 apply Z.out; clear Z K
 refine fp fun K Z => ?_
 go_simp
 try rw [q1]
 apply Z.out; clear Z K
 refine fp fun K Z => ?_
 go_simp
 apply Z.out; clear Z K
 refine Fact.z hf fun fr1 hf1 hT => ?_
 have hKp : _ ∧ _ := ⟨hT 0, hT 5⟩
 simp (decide := true) only [Fact.G, hf.size, reduceIte, s0] at hKp
 replace hf := hf1; clear hT hf1 s0 s1 b6 b7 b8 b9
 obtain ⟨s0, s5⟩ := hKp
 refine nx (hK2 _ _ ?_)
 refine Fact.sq fun K3 hK3 => ?_
 refine rg ?_
 have b10 := hf.b 10
 have b11 := hf.b 11
 refine fp fun K Z => ?_
 go_simp
 apply Z.out; clear Z K
 refine fp fun K Z => ?_
 go_simp
 rw [show ((n : Nat) : Int) / 2 = ((h : Nat) : Int) by have := HH.out; omega, Fact.wrap_u32 (by omega) (by omega)]
 apply Z.out; clear Z K
 refine fp fun K Z => ?_
 go_simp
 apply Z.out; clear Z K
 refine Fact.z hf fun fr1 hf1 hT => ?_
 have hKp : _ ∧ _ := ⟨hT 0, hT 5⟩
 simp (decide := true) only [Fact.G, hf.size, reduceIte, s5] at hKp
 replace hf := hf1; clear hT hf1 s0 s5 b10 b11
 obtain ⟨s0, s5⟩ := hKp
 refine nx (hK3 _ _ ?_)
 refine Fact.sq fun K4 hK4 => ?_
 refine Fact.sq fun K5 hK5 => ?_
 refine rg ?_
 refine fp fun K Z => ?_
 go_simp
 apply Z.out; clear Z K
 refine Fact.z hf fun fr1 hf1 hT => ?_
 have hKp : _ ∧ _ := ⟨hT 0, hT 12⟩
 simp (decide := true) only [Fact.G, hf.size, reduceIte, s0] at hKp
 replace hf := hf1; clear hT hf1 s0 s5
 obtain ⟨s0, s12⟩ := hKp
 refine nx (hK5 _ _ ?_)
 refine Fact.cond_f s12 ?_
 refine wp_skip ?_
 refine nx (hK4 _ _ ?_)
 refine Fact.sq fun K6 hK6 => ?_
 refine rg ?_
 have b15 := hf.b 15
 refine fp fun K Z => ?_
 go_simp
 apply Z.out; clear Z K
 refine fp fun K Z => ?_
 go_simp
 apply Z.out; clear Z K
 refine Fact.z hf fun fr1 hf1 hT => ?_
 have hKp := hT 4
 simp (decide := true) only [Fact.G, hf.size, reduceIte] at hKp
 replace hf := hf1; clear hT hf1 s0 s12 b15
 have s4 := hKp; clear hKp
 refine nx (hK6 _ _ ?_)
 refine wp_ret ?_
 refine Fact.ret1 rfl hf s4 ⟨?_, rfl⟩
 unfold Crc.bit
 rw [HR.out, HH.out, if_pos HB.out])
 · (
 have HB := Lib.hid hrb; clear hrb
 have q1 : ((r : Int) != (b : Int)) = true := by have := HB.out; simp; omega
 refine Fact.sq fun K7 hK7 => ?_
 refine rg ?_
 refine fp fun K Z => ?_
 go_simp
 apply Z.out; clear Z K
 refine Fact.z hf fun fr1 hf1 hT => ?_
 have hKp : _ ∧ _ := ⟨hT 0, hT 1⟩
 simp (decide := true) only [Fact.G, reduceIte, s0, s1] at hKp
 replace hf := hf1; clear hT hf1 s0 s1
 obtain ⟨s0, s1⟩ := hKp
 refine nx (hK7 _ _ ?_)
 refine Fact.sq fun K8 hK8 => ?_
 refine rg ?_
 have b6 := hf.b 6
 have b7 := hf.b 7
 have b8 := hf.b 8
 have b9 := hf.b 9
 refine fp fun K Z => ?_
 go_simp
 apply Z.out; clear Z K
 refine fp fun K Z => ?_
 go_simp
 rw [show ((n : Nat) : Int).tmod 2 = ((r : Nat) : Int) by rw [Int.tmod_eq_emod_of_nonneg (by omega)]; have := HR.out; omega]
 apply Z.out; clear Z K
 refine fp fun K Z => ?_
 go_simp
 apply Z.out; clear Z K
 refine fp fun K Z => ?_
 go_simp
 try rw [q1]
 apply Z.out; clear Z K
 refine fp fun K Z => ?_
 go_simp
 apply Z.out; clear Z K
 refine Fact.z hf fun fr1 hf1 hT => ?_
 have hKp : _ ∧ _ := ⟨hT 0, hT 5⟩
 simp (decide := true) only [Fact.G, hf.size, reduceIte, s0] at hKp
 replace hf := hf1; clear hT hf1 s0 s1 b6 b7 b8 b9
 obtain ⟨s0, s5⟩ := hKp
 refine nx (hK8 _ _ ?_)
 refine Fact.sq fun K9 hK9 => ?_
 refine rg ?_
 have b10 := hf.b 10
 have b11 := hf.b 11
 refine fp fun K Z => ?_
 go_simp
 apply Z.out; clear Z K
 refine fp fun K Z => ?_
 go_simp
 rw [show ((n : Nat) : Int) / 2 = ((h : Nat) : Int) by have := HH.out; omega, Fact.wrap_u32 (by omega) (by omega)]
 apply Z.out; clear Z K
 refine fp fun K Z => ?_
 go_simp
 apply Z.out; clear Z K
 refine Fact.z hf fun fr1 hf1 hT => ?_
 have hKp : _ ∧ _ := ⟨hT 0, hT 5⟩
 simp (decide := true) only [Fact.G, hf.size, reduceIte, s5] at hKp
 replace hf := hf1; clear hT hf1 s0 s5 b10 b11
 obtain ⟨s0, s5⟩ := hKp
 refine nx (hK9 _ _ ?_)
 refine Fact.sq fun K10 hK10 => ?_
 refine Fact.sq fun K11 hK11 => ?_
 refine rg ?_
 refine fp fun K Z => ?_
 go_simp
 apply Z.out; clear Z K
 refine Fact.z hf fun fr1 hf1 hT => ?_
 have hKp : _ ∧ _ := ⟨hT 0, hT 12⟩
 simp (decide := true) only [Fact.G, hf.size, reduceIte, s0] at hKp
 replace hf := hf1; clear hT hf1 s0 s5
 obtain ⟨s0, s12⟩ := hKp
 refine nx (hK11 _ _ ?_)
 refine Fact.cond_t s12 ?_
 refine rg ?_
 have b13 := hf.b 13
 have b14 := hf.b 14
 refine fp fun K Z => ?_
 go_simp
 apply Z.out; clear Z K
 refine fp fun K Z => ?_
 go_simp
 rw [show (3988292384 : Int) = ((3988292384 : Nat) : Int) from rfl, u32_xor_nat h 3988292384 hh32 (by decide)]
 apply Z.out; clear Z K
 refine fp fun K Z => ?_
 go_simp
 apply Z.out; clear Z K
 refine Fact.z hf fun fr1 hf1 hT => ?_
 have hKp := hT 0
 simp (decide := true) only [Fact.G, hf.size, reduceIte] at hKp
 replace hf := hf1; clear hT hf1 s0 s12 b13 b14
 have s0 := hKp; clear hKp
 refine nx (hK10 _ _ ?_)
 refine Fact.sq fun K12 hK12 => ?_
 refine rg ?_
 have b15 := hf.b 15
 refine fp fun K Z => ?_
 go_simp
 apply Z.out; clear Z K
 refine fp fun K Z => ?_
 go_simp
 apply Z.out; clear Z K
 refine Fact.z hf fun fr1 hf1 hT => ?_
 have hKp := hT 4
 simp (decide := true) only [Fact.G, hf.size, reduceIte] at hKp
 replace hf := hf1; clear hT hf1 s0 b15
 have s4 := hKp; clear hKp
 refine nx (hK12 _ _ ?_)
 refine wp_ret ?_
 refine Fact.ret1 rfl hf s4 ⟨?_, rfl⟩
 unfold Crc.bit
 rw [HR.out, HH.out, if_neg HB.out]; rfl)
set_option maxHeartbeats 4000000 in
set_option maxRecDepth 100000 in
theorem rsum (w : World) (s : ByteArray) (hsz : s.size ≤ 1000000000) : Calls Tryd.prog 26 #[.string s] w fun e w1 => e = .returned (.int .u32 (Crc.sum (wl s) : Nat)) ∧ w1 = w := by
 refine calls_of_wp Tryd.func26 rfl ?_
 refine Fact.en 30 fun fr hf hT => ?_
 have s0 := hT 0 _ rfl
 clear hT
 refine Fact.sq fun K1 hK1 => ?_
 refine rg ?_
 refine fp fun K Z => ?_
 go_simp
 apply Z.out; clear Z K
 refine Fact.z hf fun fr1 hf1 hT => ?_
 have hKp := hT 0
 simp (decide := true) only [Fact.G, reduceIte, s0] at hKp
 replace hf := hf1; clear hT hf1 s0
 have s0 := hKp; clear hKp
 refine nx (hK1 _ _ ?_)
 refine Fact.sq fun K2 hK2 => ?_
 refine rg ?_
 have b7 := hf.b 7
 refine fp fun K Z => ?_
 go_simp
 go_at_call 42; refine (rturned w 0 (by decide)).mono ?_; rintro e w1 ⟨rfl, hwe⟩
 subst w1
 try dsimp only
 apply Z.out; clear Z K
 refine fp fun K Z => ?_
 go_simp
 apply Z.out; clear Z K
 refine Fact.z hf fun fr1 hf1 hT => ?_
 have hKp : _ ∧ _ := ⟨hT 0, hT 3⟩
 simp (decide := true) only [Fact.G, hf.size, reduceIte, s0] at hKp
 replace hf := hf1; clear hT hf1 s0 b7
 obtain ⟨s0, s3⟩ := hKp
 refine nx (hK2 _ _ ?_)
 refine Fact.sq fun K3 hK3 => ?_
 refine Fact.sq fun K4 hK4 => ?_
 refine rg ?_
 refine fp fun K Z => ?_
 go_simp
 apply Z.out; clear Z K
 refine Fact.z hf fun fr1 hf1 hT => ?_
 have hKp : _ ∧ _ ∧ _ := ⟨hT 0, hT 3, hT 4⟩
 simp (decide := true) only [Fact.G, hf.size, reduceIte, s0, s3] at hKp
 replace hf := hf1; clear hT hf1 s0 s3
 obtain ⟨s0, s3, s4⟩ := hKp
 refine nx (hK4 _ _ ?_)
 refine wp_block ?_
 refine wp_loop_ghost (fun gk fr wr => ∃ (i m : Nat), gk = s.size - i ∧ i ≤ s.size ∧ Fact.Fr 30 fr ∧ fr.tmps[0]? = some (.string s) ∧ fr.tmps[3]? = some (.int .u32 m) ∧ fr.tmps[4]? = some (.int .i64 i) ∧ m = Crc.run 4294967295 ((wl s).take i) ∧ m < 4294967296 ∧ w = wr) (s.size) ?_ ?_
 · (
 exact ⟨0, 4294967295, rfl, Nat.zero_le _, hf, s0, s3, s4, rfl, by decide, rfl⟩)
 · (
 clear hf s0 s3 s4
 rintro gk fr wr ⟨i, m, hk, hi, hf, s0, s3, s4, hm, hm32, hw⟩
 subst wr
 have HK := Lib.hid hk; have HM := Lib.hid hm; clear hk hm
 refine Fact.sq fun K5 hK5 => ?_
 refine Fact.sq fun K6 hK6 => ?_
 refine rg ?_
 have b8 := hf.b 8
 have b9 := hf.b 9
 have b10 := hf.b 10
 refine fp fun K Z => ?_
 go_simp
 apply Z.out; clear Z K
 refine fp fun K Z => ?_
 go_simp
 apply Z.out; clear Z K
 refine fp fun K Z => ?_
 go_simp
 apply Z.out; clear Z K
 refine fp fun K Z => ?_
 go_simp
 apply Z.out; clear Z K
 refine Fact.z hf fun fr1 hf1 hT => ?_
 have hKp : _ ∧ _ ∧ _ ∧ _ := ⟨hT 0, hT 3, hT 4, hT 11⟩
 simp (decide := true) only [Fact.G, hf.size, reduceIte, s0, s3, s4] at hKp
 replace hf := hf1; clear hT hf1 s0 s3 s4 b8 b9 b10
 obtain ⟨s0, s3, s4, s11⟩ := hKp
 refine nx (hK6 _ _ ?_)
 refine Fact.cond_s s11 (fun hq => ?_) (fun hq => ?_)
 · (
 have hlt : i < s.size := by have h9 := of_decide_eq_true hq; omega
 clear hq
 obtain ⟨c, hc⟩ : ∃ c, at_ s i = c := ⟨_, rfl⟩
 have hc8 : c < 256 := by rw [← hc]; exact at_lt s i
 have hst : Crc.run 4294967295 ((wl s).take (i + 1)) = Crc.byte m c := by rw [List.take_add_one, wl_at hlt, Option.toList_some, hc]; unfold Crc.run at *; rw [List.foldl_append, ← HM.out]; rfl
 have hat2 : s[i].toNat = c := by rw [← hc]; exact (at_get hlt).symm
 have HST := Lib.hid hst; have HC := Lib.hid hc; clear hst hc
 refine wp_skip ?_
 refine nx (hK5 _ _ ?_)
 refine Fact.sq fun K7 hK7 => ?_
 refine wp_block ?_
 refine Fact.sq fun K8 hK8 => ?_
 refine rg ?_
 have b14 := hf.b 14
 have b15 := hf.b 15
 have b16 := hf.b 16
 have b17 := hf.b 17
 refine fp fun K Z => ?_
 go_simp
 apply Z.out; clear Z K
 refine fp fun K Z => ?_
 go_simp
 apply Z.out; clear Z K
 refine fp fun K Z => ?_
 go_simp
 try rw [if_pos hlt]
 try rw [hat2]
 apply Z.out; clear Z K
 refine fp fun K Z => ?_
 go_simp
 try rw [Fact.wrap_u32 (by omega) (by omega)]
 apply Z.out; clear Z K
 refine fp fun K Z => ?_
 go_simp
 apply Z.out; clear Z K
 refine Fact.z hf fun fr1 hf1 hT => ?_
 have hKp : _ ∧ _ ∧ _ ∧ _ := ⟨hT 0, hT 3, hT 4, hT 5⟩
 simp (decide := true) only [Fact.G, hf.size, reduceIte, s0, s3, s4] at hKp
 replace hf := hf1; clear hT hf1 s0 s3 s4 s11 b14 b15 b16 b17
 obtain ⟨s0, s3, s4, s5⟩ := hKp
 refine nx (hK8 _ _ ?_)
 refine Fact.sq fun K9 hK9 => ?_
 refine rg ?_
 refine fp fun K Z => ?_
 go_simp
 apply Z.out; clear Z K
 refine Fact.z hf fun fr1 hf1 hT => ?_
 have hKp : _ ∧ _ ∧ _ ∧ _ ∧ _ := ⟨hT 0, hT 3, hT 4, hT 5, hT 6⟩
 simp (decide := true) only [Fact.G, hf.size, reduceIte, s0, s3, s4, s5] at hKp
 replace hf := hf1; clear hT hf1 s0 s3 s4 s5
 obtain ⟨s0, s3, s4, s5, s6⟩ := hKp
 refine nx (hK9 _ _ ?_)
 refine wp_block ?_
 refine wp_loop_ghost (fun gk2 fr w2 => ∃ (k m2 c2 : Nat), gk2 = 8 - k ∧ k ≤ 8 ∧ Fact.Fr 30 fr ∧ fr.tmps[0]? = some (.string s) ∧ fr.tmps[3]? = some (.int .u32 m2) ∧ fr.tmps[4]? = some (.int .i64 i) ∧ fr.tmps[5]? = some (.int .u32 c2) ∧ fr.tmps[6]? = some (.int .i64 k) ∧ m2 = Crc.bitsRun m c k ∧ c2 = c / 2 ^ k ∧ m2 < 4294967296 ∧ w = w2) (8) ?_ ?_
 · (
 exact ⟨0, _, _, rfl, Nat.zero_le _, hf, s0, s3, s4, s5, s6, rfl, by simp, hm32, rfl⟩)
 · (
 clear hf s0 s3 s4 s5 s6
 rintro gk2 fr w2 ⟨k, m2, c2, hk2, hk8, hf, s0, s3, s4, s5, s6, hm2, hc2, hm232, hw2⟩
 subst w2
 have HK2 := Lib.hid hk2; have HM2 := Lib.hid hm2; have HC2 := Lib.hid hc2; clear hk2 hm2 hc2
 have hc256 : c2 < 256 := by rw [HC2.out]; exact Nat.lt_of_le_of_lt (Nat.div_le_self _ _) hc8
 refine Fact.sq fun K10 hK10 => ?_
 refine Fact.sq fun K11 hK11 => ?_
 refine rg ?_
 have b18 := hf.b 18
 refine fp fun K Z => ?_
 go_simp
 apply Z.out; clear Z K
 refine fp fun K Z => ?_
 go_simp
 apply Z.out; clear Z K
 refine Fact.z hf fun fr1 hf1 hT => ?_
 have hKp : _ ∧ _ ∧ _ ∧ _ ∧ _ ∧ _ := ⟨hT 0, hT 3, hT 4, hT 5, hT 6, hT 19⟩
 simp (decide := true) only [Fact.G, hf.size, reduceIte, s0, s3, s4, s5, s6] at hKp
 replace hf := hf1; clear hT hf1 s0 s3 s4 s5 s6 b18
 obtain ⟨s0, s3, s4, s5, s6, s19⟩ := hKp
 refine nx (hK11 _ _ ?_)
 refine Fact.cond_s s19 (fun hq2 => ?_) (fun hq2 => ?_)
 · (
 have hklt : k < 8 := by have h9 := of_decide_eq_true hq2; omega
 clear hq2
 obtain ⟨r, hr⟩ : ∃ x, c2 % 2 = x := ⟨_, rfl⟩
 obtain ⟨h, hh⟩ : ∃ x, c2 / 2 = x := ⟨_, rfl⟩
 have hr2 : r < 2 := by omega
 have hh256 : h < 256 := by omega
 have HR := Lib.hid hr; have HH := Lib.hid hh; clear hr hh
 refine wp_skip ?_
 refine nx (hK10 _ _ ?_)
 refine Fact.sq fun K12 hK12 => ?_
 refine wp_block ?_
 refine Fact.sq fun K13 hK13 => ?_
 refine rg ?_
 have b22 := hf.b 22
 have b23 := hf.b 23
 have b24 := hf.b 24
 have b25 := hf.b 25
 refine fp fun K Z => ?_
 go_simp
 apply Z.out; clear Z K
 refine fp fun K Z => ?_
 go_simp
 apply Z.out; clear Z K
 refine fp fun K Z => ?_
 go_simp
 rw [show ((c2 : Nat) : Int).tmod 2 = ((r : Nat) : Int) by rw [Int.tmod_eq_emod_of_nonneg (by omega)]; have := HR.out; omega]
 apply Z.out; clear Z K
 refine fp fun K Z => ?_
 go_simp
 go_at_call 43; refine (rbit w m2 r hm232 hr2).mono ?_; rintro e w3 ⟨rfl, hwe⟩
 subst w3
 obtain ⟨m3, hm3⟩ : ∃ x, Crc.bit m2 r = x := ⟨_, rfl⟩
 rw [hm3]
 have hm332 : m3 < 4294967296 := by rw [← hm3]; exact Crc.bit_lt hm232
 have HM3 := Lib.hid hm3; clear hm3
 try dsimp only
 apply Z.out; clear Z K
 refine fp fun K Z => ?_
 go_simp
 apply Z.out; clear Z K
 refine Fact.z hf fun fr1 hf1 hT => ?_
 have hKp : _ ∧ _ ∧ _ ∧ _ ∧ _ := ⟨hT 0, hT 3, hT 4, hT 5, hT 6⟩
 simp (decide := true) only [Fact.G, hf.size, reduceIte, s0, s4, s5, s6] at hKp
 replace hf := hf1; clear hT hf1 s0 s3 s4 s5 s6 s19 b22 b23 b24 b25
 obtain ⟨s0, s3, s4, s5, s6⟩ := hKp
 refine nx (hK13 _ _ ?_)
 refine rg ?_
 have b26 := hf.b 26
 have b27 := hf.b 27
 refine fp fun K Z => ?_
 go_simp
 apply Z.out; clear Z K
 refine fp fun K Z => ?_
 go_simp
 rw [show ((c2 : Nat) : Int) / 2 = ((h : Nat) : Int) by have := HH.out; omega, Fact.wrap_u32 (by omega) (by omega)]
 apply Z.out; clear Z K
 refine fp fun K Z => ?_
 go_simp
 apply Z.out; clear Z K
 refine Fact.z hf fun fr1 hf1 hT => ?_
 have hKp : _ ∧ _ ∧ _ ∧ _ ∧ _ := ⟨hT 0, hT 3, hT 4, hT 5, hT 6⟩
 simp (decide := true) only [Fact.G, hf.size, reduceIte, s0, s3, s4, s6] at hKp
 replace hf := hf1; clear hT hf1 s0 s3 s4 s5 s6 b26 b27
 obtain ⟨s0, s3, s4, s5, s6⟩ := hKp
 refine Fact.block_normal ?_
 refine nx (hK12 _ _ ?_)
 refine rg ?_
 have b20 := hf.b 20
 have b21 := hf.b 21
 refine fp fun K Z => ?_
 go_simp
 apply Z.out; clear Z K
 refine fp fun K Z => ?_
 go_simp
 try simp (disch := omega) only [Fact.W]
 apply Z.out; clear Z K
 refine fp fun K Z => ?_
 go_simp
 apply Z.out; clear Z K
 refine Fact.z hf fun fr1 hf1 hT => ?_
 have hKp : _ ∧ _ ∧ _ ∧ _ ∧ _ := ⟨hT 0, hT 3, hT 4, hT 5, hT 6⟩
 simp (decide := true) only [Fact.G, hf.size, reduceIte, s0, s3, s4, s5] at hKp
 replace hf := hf1; clear hT hf1 s0 s3 s4 s5 s6 b20 b21
 obtain ⟨s0, s3, s4, s5, s6⟩ := hKp
 refine Fact.then_normal ?_
 exact ⟨_, by have := HK2.out; omega, k + 1, m3, h, rfl, by omega, hf, s0, s3, s4, s5, by rw [s6]; rfl, by rw [← HM3.out, ← HR.out, HM2.out, HC2.out]; rfl, by rw [← HH.out, HC2.out, Nat.div_div_eq_div_mul, Nat.pow_succ], hm332, rfl⟩)
 · (
 have hke : k = 8 := by have h9 := of_decide_eq_false hq2; omega
 have hm8 : m2 = Crc.byte m c := by rw [HM2.out, hke]; exact Crc.bitsRun8 m c
 have HM8 := Lib.hid hm8; clear hm8 hke hq2
 refine wp_exit ?_
 refine Fact.then_exit ?_
 refine Fact.then_exit ?_
 refine Fact.block_exit ?_
 refine Fact.block_normal ?_
 refine nx (hK7 _ _ ?_)
 refine rg ?_
 have b12 := hf.b 12
 have b13 := hf.b 13
 refine fp fun K Z => ?_
 go_simp
 apply Z.out; clear Z K
 refine fp fun K Z => ?_
 go_simp
 try simp (disch := omega) only [Fact.W]
 apply Z.out; clear Z K
 refine fp fun K Z => ?_
 go_simp
 apply Z.out; clear Z K
 refine Fact.z hf fun fr1 hf1 hT => ?_
 have hKp : _ ∧ _ ∧ _ := ⟨hT 0, hT 3, hT 4⟩
 simp (decide := true) only [Fact.G, hf.size, reduceIte, s0, s3] at hKp
 replace hf := hf1; clear hT hf1 s0 s3 s4 s5 s6 s19 b12 b13
 obtain ⟨s0, s3, s4⟩ := hKp
 refine Fact.then_normal ?_
 exact ⟨_, by have := HK.out; omega, i + 1, m2, rfl, by omega, hf, s0, s3, by rw [s4]; rfl, by rw [HM8.out, ← HST.out], hm232, rfl⟩)))
 · (
 have hie : i = s.size := by have h9 := of_decide_eq_false hq; omega
 have hme : m = Crc.run 4294967295 (wl s) := by have h9 := HM.out; rwa [hie, List.take_of_length_le (by rw [wl_length]; omega)] at h9
 have HME := Lib.hid hme; clear hme hie hq
 refine wp_exit ?_
 refine Fact.then_exit ?_
 refine Fact.then_exit ?_
 refine Fact.block_exit ?_
 refine nx (hK3 _ _ ?_)
 refine Fact.sq fun K14 hK14 => ?_
 refine rg ?_
 have b28 := hf.b 28
 have b29 := hf.b 29
 refine fp fun K Z => ?_
 go_simp
 apply Z.out; clear Z K
 refine fp fun K Z => ?_
 go_simp
 go_at_call 42; refine (rturned w m hm32).mono ?_; rintro e w1 ⟨rfl, hwe⟩
 subst w1
 try dsimp only
 apply Z.out; clear Z K
 refine fp fun K Z => ?_
 go_simp
 apply Z.out; clear Z K
 refine Fact.z hf fun fr1 hf1 hT => ?_
 have hKp := hT 2
 simp (decide := true) only [Fact.G, hf.size, reduceIte] at hKp
 replace hf := hf1; clear hT hf1 s0 s3 s4 s11 b28 b29
 have s2 := hKp; clear hKp
 refine nx (hK14 _ _ ?_)
 refine wp_ret ?_
 exact Fact.ret1 rfl hf s2 ⟨by unfold Crc.sum; rw [HME.out], rfl⟩))
end Dw
end Go.Proofs.YtdkbgbdgmihlmaaDoor

namespace Go.Proofs.YtdkbgbdgmihlmaaDoor
open Go.RowKit
set_option linter.unusedSimpArgs false
set_option linter.unusedVariables false
set_option linter.unnecessarySimpa false
namespace Dw

theorem conv_lit (w : World) (l : List Nat) : (convert 35 9 (.slice (some ⟨w.heap.size, 0, none⟩) l.length l.length)).run Tryd.prog (w.alloc (.cells (bcs l).toArray 5)) = .ok (.string (bl l)) (w.alloc (.cells (bcs l).toArray 5)) := by
  refine run_convert_bytes_arg (P := Tryd.prog) _ 35 5 Tryd.underlying35 Tryd.underlying5 w.heap.size 0 l.length l.length (l.map fun (x : Nat) => (x : Int)) (by simp) (fun i hi => ?_) 9 Tryd.underlying9
  rw [Nat.zero_add, lit_new w (bcs l) 5 i (.int .u8 (l[i] : Nat)) (by unfold bcs; rw [List.getElem?_map, List.getElem?_eq_getElem hi]; rfl)]
  simp [hi]
theorem four_eq {n a b c d qa qb qc qd : Nat} (ha : qa % 256 = a) (hb : qb % 256 = b) (hc : qc % 256 = c) (hd : qd % 256 = d) (h1 : n = qa) (h2 : n / 256 = qb) (h3 : n / 65536 = qc) (h4 : n / 16777216 = qd) : Crc.four n = [a, b, c, d] := by
  unfold Crc.four
  rw [h2, h3, h4, hb, hc, hd, h1, ha]
set_option maxHeartbeats 4000000 in
set_option maxRecDepth 100000 in
theorem rfour (w : World) (n : Nat) (hn : n < 4294967296) : Calls Tryd.prog 25 #[.int .u32 n] w fun e w1 => e = .returned (.string (bl (Crc.four n))) ∧ Below w.heap.size w w1 := by
 refine calls_of_wp Tryd.func25 rfl ?_
 refine Fact.en 19 fun fr hf hT => ?_
 have s0 := hT 0 _ rfl
 clear hT
 obtain ⟨qa, hqa⟩ : ∃ x, n = x := ⟨_, rfl⟩
 obtain ⟨a, ha⟩ : ∃ x, qa % 256 = x := ⟨_, rfl⟩
 have hla : a < 256 := by omega
 have hka : qa < 4294967296 := by omega
 obtain ⟨qb, hqb⟩ : ∃ x, n / 256 = x := ⟨_, rfl⟩
 obtain ⟨b, hb⟩ : ∃ x, qb % 256 = x := ⟨_, rfl⟩
 have hlb : b < 256 := by omega
 have hkb : qb < 4294967296 := by omega
 obtain ⟨qc, hqc⟩ : ∃ x, n / 65536 = x := ⟨_, rfl⟩
 obtain ⟨c, hc⟩ : ∃ x, qc % 256 = x := ⟨_, rfl⟩
 have hlc : c < 256 := by omega
 have hkc : qc < 4294967296 := by omega
 obtain ⟨qd, hqd⟩ : ∃ x, n / 16777216 = x := ⟨_, rfl⟩
 obtain ⟨d, hd⟩ : ∃ x, qd % 256 = x := ⟨_, rfl⟩
 have hld : d < 256 := by omega
 have hkd : qd < 4294967296 := by omega
 have hqd2 : qd = d := by omega
 have HQA := Lib.hid hqa; have HQB := Lib.hid hqb; have HQC := Lib.hid hqc; have HQD := Lib.hid hqd; have HA := Lib.hid ha; have HB := Lib.hid hb; have HC := Lib.hid hc; have HD := Lib.hid hd; have HQD2 := Lib.hid hqd2; clear hqa hqb hqc hqd ha hb hc hd hqd2
 refine Fact.sq fun K1 hK1 => ?_
 refine rg ?_
 refine fp fun K Z => ?_
 go_simp
 apply Z.out; clear Z K
 refine Fact.z hf fun fr1 hf1 hT => ?_
 have hKp := hT 0
 simp (decide := true) only [Fact.G, reduceIte, s0] at hKp
 replace hf := hf1; clear hT hf1 s0
 have s0 := hKp; clear hKp
 refine nx (hK1 _ _ ?_)
 refine Fact.sq fun K2 hK2 => ?_
 refine rg ?_
 have b3 := hf.b 3
 have b4 := hf.b 4
 have b5 := hf.b 5
 have b6 := hf.b 6
 have b7 := hf.b 7
 have b8 := hf.b 8
 have b9 := hf.b 9
 have b10 := hf.b 10
 have b11 := hf.b 11
 have b12 := hf.b 12
 have b13 := hf.b 13
 have b14 := hf.b 14
 have b15 := hf.b 15
 have b16 := hf.b 16
 have b17 := hf.b 17
 have b18 := hf.b 18
 refine fp fun K Z => ?_
 go_simp
 apply Z.out; clear Z K
 refine fp fun K Z => ?_
 go_simp
 rw [show ((n : Nat) : Int).tmod 256 = ((a : Nat) : Int) by rw [Int.tmod_eq_emod_of_nonneg (by omega)]; have := HA.out; have := HQA.out; omega]
 apply Z.out; clear Z K
 refine fp fun K Z => ?_
 go_simp
 rw [Fact.wrap_u8 (by omega) (by omega)]
 apply Z.out; clear Z K
 refine fp fun K Z => ?_
 go_simp
 apply Z.out; clear Z K
 refine fp fun K Z => ?_
 go_simp
 rw [show ((n : Nat) : Int) / 256 = ((qb : Nat) : Int) by have := HQB.out; omega, Fact.wrap_u32 (by omega) (by omega)]
 apply Z.out; clear Z K
 refine fp fun K Z => ?_
 go_simp
 rw [show ((qb : Nat) : Int).tmod 256 = ((b : Nat) : Int) by rw [Int.tmod_eq_emod_of_nonneg (by omega)]; have := HB.out; have := HQB.out; omega]
 apply Z.out; clear Z K
 refine fp fun K Z => ?_
 go_simp
 rw [Fact.wrap_u8 (by omega) (by omega)]
 apply Z.out; clear Z K
 refine fp fun K Z => ?_
 go_simp
 apply Z.out; clear Z K
 refine fp fun K Z => ?_
 go_simp
 rw [show ((n : Nat) : Int) / 65536 = ((qc : Nat) : Int) by have := HQC.out; omega, Fact.wrap_u32 (by omega) (by omega)]
 apply Z.out; clear Z K
 refine fp fun K Z => ?_
 go_simp
 rw [show ((qc : Nat) : Int).tmod 256 = ((c : Nat) : Int) by rw [Int.tmod_eq_emod_of_nonneg (by omega)]; have := HC.out; have := HQC.out; omega]
 apply Z.out; clear Z K
 refine fp fun K Z => ?_
 go_simp
 rw [Fact.wrap_u8 (by omega) (by omega)]
 apply Z.out; clear Z K
 refine fp fun K Z => ?_
 go_simp
 apply Z.out; clear Z K
 refine fp fun K Z => ?_
 go_simp
 rw [show ((n : Nat) : Int) / 16777216 = ((qd : Nat) : Int) by have := HQD.out; omega, Fact.wrap_u32 (by omega) (by omega)]
 apply Z.out; clear Z K
 refine fp fun K Z => ?_
 go_simp
 rw [show ((qd : Nat) : Int) = ((d : Nat) : Int) by have := HQD2.out; omega, Fact.wrap_u8 (by omega) (by omega)]
 apply Z.out; clear Z K
 refine fp fun K Z => ?_
 go_simp
 have hcv := conv_lit w [a, b, c, d]
 have hb1 : Below w.heap.size w (w.alloc (.cells #[.int .u8 (a : Nat), .int .u8 (b : Nat), .int .u8 (c : Nat), .int .u8 (d : Nat)] 5)) := (Below.refl _ _).alloc (Nat.le_refl _) _
 simp only [bcs, List.map_cons, List.map_nil, List.length_cons, List.length_nil, Nat.zero_add, Nat.reduceAdd] at hcv
 obtain ⟨W1, hW1⟩ : ∃ x, w.alloc (.cells #[.int .u8 (a : Nat), .int .u8 (b : Nat), .int .u8 (c : Nat), .int .u8 (d : Nat)] 5) = x := ⟨_, rfl⟩
 rw [hW1] at hcv hb1
 rw [hW1]
 clear hW1
 apply Z.out; clear Z K
 refine fp fun K Z => ?_
 go_simp
 apply Z.out; clear Z K
 refine fp fun K Z => ?_
 go_simp
 apply Z.out; clear Z K
 refine Fact.z hf fun fr1 hf1 hT => ?_
 have hKp := hT 2
 simp (decide := true) only [Fact.G, hf.size, reduceIte] at hKp
 replace hf := hf1; clear hT hf1 s0 b3 b4 b5 b6 b7 b8 b9 b10 b11 b12 b13 b14 b15 b16 b17 b18
 have s2 := hKp; clear hKp
 refine nx (hK2 _ _ ?_)
 refine wp_ret ?_
 refine Fact.ret1 rfl hf s2 ⟨?_, hb1⟩
 rw [four_eq HA.out HB.out HC.out HD.out HQA.out HQB.out HQC.out HQD.out]
set_option maxHeartbeats 4000000 in
set_option maxRecDepth 100000 in
theorem rseal (w : World) (s : ByteArray) (hsz : s.size ≤ 900000000) : Calls Tryd.prog 12 #[.string s] w fun e w1 => e = .returned (.string (bl (Crc.seal' (wl s)))) ∧ Below w.heap.size w w1 := by
 refine calls_of_wp Tryd.func12 rfl ?_
 refine Fact.en 8 fun fr hf hT => ?_
 have s0 := hT 0 _ rfl
 clear hT
 refine Fact.sq fun K1 hK1 => ?_
 refine rg ?_
 refine fp fun K Z => ?_
 go_simp
 apply Z.out; clear Z K
 refine Fact.z hf fun fr1 hf1 hT => ?_
 have hKp := hT 0
 simp (decide := true) only [Fact.G, reduceIte, s0] at hKp
 replace hf := hf1; clear hT hf1 s0
 have s0 := hKp; clear hKp
 refine nx (hK1 _ _ ?_)
 refine Fact.sq fun K2 hK2 => ?_
 refine rg ?_
 have b3 := hf.b 3
 have b4 := hf.b 4
 have b5 := hf.b 5
 have b6 := hf.b 6
 have b7 := hf.b 7
 refine fp fun K Z => ?_
 go_simp
 apply Z.out; clear Z K
 refine fp fun K Z => ?_
 go_simp
 apply Z.out; clear Z K
 refine fp fun K Z => ?_
 go_simp
 go_at_call 26; refine (rsum w s (by omega)).mono ?_; rintro e w1 ⟨rfl, hwe⟩
 subst w1
 have hs32 := Crc.sum_lt (wl s)
 try dsimp only
 apply Z.out; clear Z K
 refine fp fun K Z => ?_
 go_simp
 go_at_call 25; refine (rfour w (Crc.sum (wl s)) hs32).mono ?_; rintro e w2 ⟨rfl, hb2⟩
 obtain ⟨T, hT⟩ : ∃ x, bl (Crc.four (Crc.sum (wl s))) = x := ⟨_, rfl⟩
 rw [hT]
 have hT4 : T.size = 4 := by rw [← hT, bl_size]; rfl
 have HT := Lib.hid hT; have HT4 := Lib.hid hT4; clear hT hT4
 try dsimp only
 apply Z.out; clear Z K
 refine fp fun K Z => ?_
 go_simp
 try simp (disch := omega) only [Fact.W]
 rw [if_neg (by have := HT4.out; omega)]
 rw [Oper.upon_value]
 apply Z.out; clear Z K
 refine fp fun K Z => ?_
 go_simp
 apply Z.out; clear Z K
 refine Fact.z hf fun fr1 hf1 hT => ?_
 have hKp := hT 2
 simp (decide := true) only [Fact.G, hf.size, reduceIte] at hKp
 replace hf := hf1; clear hT hf1 s0 b3 b4 b5 b6 b7
 have s2 := hKp; clear hKp
 refine nx (hK2 _ _ ?_)
 refine wp_ret ?_
 refine Fact.ret1 rfl hf s2 ⟨?_, hb2⟩
 rw [← HT.out, show bl (Crc.seal' (wl s)) = s ++ bl (Crc.four (Crc.sum (wl s))) by unfold Crc.seal'; rw [bl_append, bl_wl]]
end Dw
end Go.Proofs.YtdkbgbdgmihlmaaDoor

namespace Go.Proofs.YtdkbgbdgmihlmaaDoor
open Go.RowKit
set_option linter.unusedSimpArgs false
set_option linter.unusedVariables false
set_option linter.unnecessarySimpa false
namespace Dw

/-- how many bytes a number needs, one at least -/
def bytesN (n : Nat) : Nat := if n = 0 then 1 else lenB n
theorem bytesN_lenB {n : Nat} (h0 : 0 < n) (h : n < M64) : bytesN n = lenB n := by unfold bytesN; rw [if_neg (by omega)]
theorem bytesN_of {n x m : Nat} (hn : n < M64) (hm : 1 ≤ m) (hmx : 2 ≤ m → 1 ≤ x) (hx : n / 256 ^ (m - 1) = x) (h : x < 256) : bytesN n = m := by
  unfold bytesN
  split
  · rename_i h0
    subst h0
    rw [Nat.zero_div] at hx
    rcases Nat.lt_or_ge m 2 with h1 | h1
    · omega
    · have := hmx h1; omega
  · rename_i h0
    have hp : 0 < 256 ^ (m - 1) := Nat.pow_pos (by omega)
    refine lenB_uniq hn hm ?_ ?_
    · rcases Nat.lt_or_ge m 2 with h1 | h1
      · rw [show m - 1 = 0 by omega]; simp; omega
      · have h2 := hmx h1
        have h3 := Nat.div_mul_le_self n (256 ^ (m - 1))
        rw [hx] at h3
        exact Nat.le_trans (Nat.le_mul_of_pos_left _ h2) h3
    · have h3 : n < 256 ^ (m - 1) * 256 := Nat.lt_mul_of_div_lt (by rw [hx]; exact h) hp |> fun h9 => by rwa [Nat.mul_comm] at h9
      rw [← Nat.pow_succ, show (m - 1).succ = m by omega] at h3
      exact h3
theorem bytesN_room {n x m : Nat} (hn : n < M64) (hx : n / 256 ^ (m - 1) = x) (h : 256 ≤ x) (hm : m ≤ 8) : m ≤ 7 := by
  rcases Nat.lt_or_ge m 8 with h1 | h1
  · omega
  · exfalso
    have : m = 8 := by omega
    subst this
    unfold M64 at hn
    rw [show (256 : Nat) ^ (8 - 1) = 72057594037927936 by rfl] at hx
    omega
theorem ob_lit (w : World) (c : Nat) : OB (w.alloc (.cells #[.int .u8 (c : Nat)] 5)) w.heap.size (.slice (some ⟨w.heap.size, 0, none⟩) 1 1) [c] := World.ownsRow_lit (size := 1) w #[.int .u8 (c : Nat)] 1 (Nat.le_refl _) (by unfold maxLen; omega) rfl
set_option maxHeartbeats 4000000 in
set_option maxRecDepth 100000 in
theorem rbytes (w : World) (n : Nat) (hn : n < M64) : Calls Tryd.prog 65 #[.int .u64 n] w fun e w1 => e = .returned (.int .i64 (bytesN n : Nat)) ∧ w1 = w := by
 refine calls_of_wp Tryd.func65 rfl ?_
 refine Fact.en 11 fun fr hf hT => ?_
 have s0 := hT 0 _ rfl
 clear hT
 refine Fact.sq fun K1 hK1 => ?_
 refine rg ?_
 refine fp fun K Z => ?_
 go_simp
 apply Z.out; clear Z K
 refine Fact.z hf fun fr1 hf1 hT => ?_
 have hKp := hT 0
 simp (decide := true) only [Fact.G, reduceIte, s0] at hKp
 replace hf := hf1; clear hT hf1 s0
 have s0 := hKp; clear hKp
 refine nx (hK1 _ _ ?_)
 refine Fact.sq fun K2 hK2 => ?_
 refine rg ?_
 refine fp fun K Z => ?_
 go_simp
 apply Z.out; clear Z K
 refine Fact.z hf fun fr1 hf1 hT => ?_
 have hKp : _ ∧ _ := ⟨hT 0, hT 3⟩
 simp (decide := true) only [Fact.G, hf.size, reduceIte, s0] at hKp
 replace hf := hf1; clear hT hf1 s0
 obtain ⟨s0, s3⟩ := hKp
 refine nx (hK2 _ _ ?_)
 refine Fact.sq fun K3 hK3 => ?_
 refine wp_block ?_
 refine wp_loop_ghost (fun gk fr wr => ∃ (x m : Nat), gk = x ∧ Fact.Fr 11 fr ∧ fr.tmps[0]? = some (.int .u64 x) ∧ fr.tmps[3]? = some (.int .i64 m) ∧ 1 ≤ m ∧ m ≤ 8 ∧ (2 ≤ m → 1 ≤ x) ∧ n / 256 ^ (m - 1) = x ∧ w = wr) (n) ?_ ?_
 · (
 exact ⟨n, 1, rfl, hf, s0, s3, by omega, by omega, by omega, by simp, rfl⟩)
 · (
 clear hf s0 s3
 have hn9 := hn; unfold M64 at hn9; rintro gk fr wr ⟨x, m, hk, hf, s0, s3, hm1, hm8, hmx, hx, hw⟩
 subst wr
 have HK := Lib.hid hk; have HX := Lib.hid hx; clear hk hx
 have hx64 : x < 18446744073709551616 := by have := HX.out; have := Nat.div_le_self n (256 ^ (m - 1)); omega
 refine Fact.sq fun K4 hK4 => ?_
 refine Fact.sq fun K5 hK5 => ?_
 refine rg ?_
 have b4 := hf.b 4
 refine fp fun K Z => ?_
 go_simp
 apply Z.out; clear Z K
 refine fp fun K Z => ?_
 go_simp
 apply Z.out; clear Z K
 refine Fact.z hf fun fr1 hf1 hT => ?_
 have hKp : _ ∧ _ ∧ _ := ⟨hT 0, hT 3, hT 5⟩
 simp (decide := true) only [Fact.G, hf.size, reduceIte, s0, s3] at hKp
 replace hf := hf1; clear hT hf1 s0 s3 b4
 obtain ⟨s0, s3, s5⟩ := hKp
 refine nx (hK5 _ _ ?_)
 refine Fact.cond_s s5 (fun hq => ?_) (fun hq => ?_)
 · (
 have hge : 256 ≤ x := by have h9 := of_decide_eq_true hq; omega
 clear hq
 obtain ⟨y, hy⟩ : ∃ y, x / 256 = y := ⟨_, rfl⟩
 have hy64 : y < 18446744073709551616 := by omega
 have hyx : y < x := by omega
 have hm7 : m ≤ 7 := bytesN_room hn HX.out hge hm8
 have HY := Lib.hid hy; clear hy
 refine wp_skip ?_
 refine nx (hK4 _ _ ?_)
 refine wp_block ?_
 refine Fact.sq fun K6 hK6 => ?_
 refine rg ?_
 have b6 := hf.b 6
 have b7 := hf.b 7
 refine fp fun K Z => ?_
 go_simp
 apply Z.out; clear Z K
 refine fp fun K Z => ?_
 go_simp
 rw [show ((x : Nat) : Int) / 256 = ((y : Nat) : Int) by have := HY.out; omega, Fact.wrap_u64 (by omega) (by omega)]
 apply Z.out; clear Z K
 refine fp fun K Z => ?_
 go_simp
 apply Z.out; clear Z K
 refine Fact.z hf fun fr1 hf1 hT => ?_
 have hKp : _ ∧ _ := ⟨hT 0, hT 3⟩
 simp (decide := true) only [Fact.G, hf.size, reduceIte, s3] at hKp
 replace hf := hf1; clear hT hf1 s0 s3 s5 b6 b7
 obtain ⟨s0, s3⟩ := hKp
 refine nx (hK6 _ _ ?_)
 refine rg ?_
 have b8 := hf.b 8
 have b9 := hf.b 9
 refine fp fun K Z => ?_
 go_simp
 apply Z.out; clear Z K
 refine fp fun K Z => ?_
 go_simp
 try simp (disch := omega) only [Fact.W]
 apply Z.out; clear Z K
 refine fp fun K Z => ?_
 go_simp
 apply Z.out; clear Z K
 refine Fact.z hf fun fr1 hf1 hT => ?_
 have hKp : _ ∧ _ := ⟨hT 0, hT 3⟩
 simp (decide := true) only [Fact.G, hf.size, reduceIte, s0] at hKp
 replace hf := hf1; clear hT hf1 s0 s3 b8 b9
 obtain ⟨s0, s3⟩ := hKp
 refine Fact.block_normal ?_
 refine Fact.then_normal ?_
 exact ⟨_, by have := HK.out; omega, y, m + 1, rfl, hf, s0, by rw [s3]; rfl, by omega, by omega, (fun _ => by have := HY.out; omega), by rw [← HY.out, ← HX.out, Nat.div_div_eq_div_mul, show m + 1 - 1 = (m - 1) + 1 by omega, Nat.pow_succ], rfl⟩)
 · (
 have hlt : x < 256 := by have h9 := of_decide_eq_false hq; omega
 have hmn : bytesN n = m := bytesN_of hn hm1 hmx HX.out hlt
 have HMN := Lib.hid hmn; clear hmn hq
 refine wp_exit ?_
 refine Fact.then_exit ?_
 refine Fact.then_exit ?_
 refine Fact.block_exit ?_
 refine nx (hK3 _ _ ?_)
 refine Fact.sq fun K7 hK7 => ?_
 refine rg ?_
 have b10 := hf.b 10
 refine fp fun K Z => ?_
 go_simp
 apply Z.out; clear Z K
 refine fp fun K Z => ?_
 go_simp
 apply Z.out; clear Z K
 refine Fact.z hf fun fr1 hf1 hT => ?_
 have hKp := hT 2
 simp (decide := true) only [Fact.G, hf.size, reduceIte] at hKp
 replace hf := hf1; clear hT hf1 s0 s3 s5 b10
 have s2 := hKp; clear hKp
 refine nx (hK7 _ _ ?_)
 refine wp_ret ?_
 exact Fact.ret1 rfl hf s2 ⟨by rw [HMN.out], rfl⟩))
set_option maxHeartbeats 4000000 in
set_option maxRecDepth 100000 in
theorem rput (w : World) (n : Nat) (hn : n < M64) : Calls Tryd.prog 41 #[.int .u64 n] w fun e w1 => e = .returned (.string (bl (numB n))) ∧ Below w.heap.size w w1 := by
 refine calls_of_wp Tryd.func41 rfl ?_
 refine Fact.en 33 fun fr hf hT => ?_
 have s0 := hT 0 _ rfl
 clear hT
 refine Fact.sq fun K1 hK1 => ?_
 refine rg ?_
 refine fp fun K Z => ?_
 go_simp
 apply Z.out; clear Z K
 refine Fact.z hf fun fr1 hf1 hT => ?_
 have hKp := hT 0
 simp (decide := true) only [Fact.G, reduceIte, s0] at hKp
 replace hf := hf1; clear hT hf1 s0
 have s0 := hKp; clear hKp
 refine nx (hK1 _ _ ?_)
 refine Fact.sq fun K2 hK2 => ?_
 refine Fact.sq fun K3 hK3 => ?_
 refine rg ?_
 have b6 := hf.b 6
 refine fp fun K Z => ?_
 go_simp
 apply Z.out; clear Z K
 refine fp fun K Z => ?_
 go_simp
 apply Z.out; clear Z K
 refine Fact.z hf fun fr1 hf1 hT => ?_
 have hKp : _ ∧ _ := ⟨hT 0, hT 7⟩
 simp (decide := true) only [Fact.G, hf.size, reduceIte, s0] at hKp
 replace hf := hf1; clear hT hf1 s0 b6
 obtain ⟨s0, s7⟩ := hKp
 refine nx (hK3 _ _ ?_)
 refine Fact.cond_s s7 (fun hq => ?_) (fun hq => ?_)
 · (
 have hlt : n < 248 := by have h9 := of_decide_eq_true hq; omega
 clear hq
 refine Fact.sq fun K4 hK4 => ?_
 refine rg ?_
 have b8 := hf.b 8
 have b9 := hf.b 9
 have b10 := hf.b 10
 have b11 := hf.b 11
 refine fp fun K Z => ?_
 go_simp
 apply Z.out; clear Z K
 refine fp fun K Z => ?_
 go_simp
 rw [Fact.wrap_u8 (by omega) (by omega)]
 apply Z.out; clear Z K
 refine fp fun K Z => ?_
 go_simp
 have hcv := conv_lit w [n]
 have hb1 : Below w.heap.size w (w.alloc (.cells #[.int .u8 (n : Nat)] 5)) := (Below.refl _ _).alloc (Nat.le_refl _) _
 simp only [bcs, List.map_cons, List.map_nil, List.length_cons, List.length_nil, Nat.zero_add] at hcv
 obtain ⟨W1, hW1⟩ : ∃ x, w.alloc (.cells #[.int .u8 (n : Nat)] 5) = x := ⟨_, rfl⟩
 rw [hW1] at hcv hb1
 rw [hW1]
 clear hW1
 apply Z.out; clear Z K
 refine fp fun K Z => ?_
 go_simp
 apply Z.out; clear Z K
 refine fp fun K Z => ?_
 go_simp
 apply Z.out; clear Z K
 refine Fact.z hf fun fr1 hf1 hT => ?_
 have hKp := hT 2
 simp (decide := true) only [Fact.G, hf.size, reduceIte] at hKp
 replace hf := hf1; clear hT hf1 s0 s7 b8 b9 b10 b11
 have s2 := hKp; clear hKp
 refine nx (hK4 _ _ ?_)
 refine wp_ret ?_
 refine Fact.then_ret ?_
 exact Fact.ret1 rfl hf s2 ⟨by unfold numB; rw [if_pos hlt], hb1⟩)
 · (
 have hge : 248 ≤ n := by have h9 := of_decide_eq_false hq; omega
 clear hq
 have hn9 := hn; unfold M64 at hn9
 refine wp_skip ?_
 refine nx (hK2 _ _ ?_)
 refine Fact.sq fun K5 hK5 => ?_
 refine rg ?_
 have b12 := hf.b 12
 have b13 := hf.b 13
 refine fp fun K Z => ?_
 go_simp
 apply Z.out; clear Z K
 refine fp fun K Z => ?_
 go_simp
 go_at_call 65; refine (rbytes w n hn).mono ?_; rintro e w1 ⟨rfl, hwe⟩
 subst w1
 rw [bytesN_lenB (by omega) hn]
 obtain ⟨m, hm⟩ : ∃ m, lenB n = m := ⟨_, rfl⟩
 have hmb := lenB_bounds (show 0 < n by omega) hn
 rw [hm] at hmb
 rw [hm]
 have HM := Lib.hid hm; clear hm
 try dsimp only
 apply Z.out; clear Z K
 refine fp fun K Z => ?_
 go_simp
 apply Z.out; clear Z K
 refine Fact.z hf fun fr1 hf1 hT => ?_
 have hKp : _ ∧ _ := ⟨hT 0, hT 3⟩
 simp (decide := true) only [Fact.G, hf.size, reduceIte, s0] at hKp
 replace hf := hf1; clear hT hf1 s0 s7 b12 b13
 obtain ⟨s0, s3⟩ := hKp
 refine nx (hK5 _ _ ?_)
 obtain ⟨c, hc⟩ : ∃ c, 247 + m = c := ⟨_, rfl⟩
 have hc8 : c < 256 := by omega
 have HC := Lib.hid hc; clear hc
 refine Fact.sq fun K6 hK6 => ?_
 refine rg ?_
 have b14 := hf.b 14
 have b15 := hf.b 15
 have b16 := hf.b 16
 have b17 := hf.b 17
 refine fp fun K Z => ?_
 go_simp
 apply Z.out; clear Z K
 refine fp fun K Z => ?_
 go_simp
 try simp (disch := omega) only [Fact.W]
 rw [show (247 : Int) + ((m : Nat) : Int) = ((c : Nat) : Int) by have := HC.out; omega]
 apply Z.out; clear Z K
 refine fp fun K Z => ?_
 go_simp
 rw [Fact.wrap_u8 (by omega) (by omega)]
 apply Z.out; clear Z K
 refine fp fun K Z => ?_
 go_simp
 apply Z.out; clear Z K
 refine fp fun K Z => ?_
 go_simp
 apply Z.out; clear Z K
 refine Fact.z hf fun fr1 hf1 hT => ?_
 have hKp : _ ∧ _ ∧ _ := ⟨hT 0, hT 3, hT 4⟩
 simp (decide := true) only [Fact.G, hf.size, reduceIte, s0, s3] at hKp
 replace hf := hf1; clear hT hf1 s0 s3 b14 b15 b16 b17
 obtain ⟨s0, s3, s4⟩ := hKp
 obtain ⟨W1, hW1⟩ : ∃ x, w.alloc (.cells #[.int .u8 (c : Nat)] 5) = x := ⟨_, rfl⟩
 try rw [hW1]
 have hob : OB W1 w.heap.size (.slice (some ⟨w.heap.size, 0, none⟩) 1 1) [c] := by rw [← hW1]; exact ob_lit w c
 have hb1 : Below w.heap.size w W1 := by rw [← hW1]; exact (Below.refl _ _).alloc (Nat.le_refl _) _
 clear hW1
 refine nx (hK6 _ _ ?_)
 refine Fact.sq fun K7 hK7 => ?_
 refine Fact.sq fun K8 hK8 => ?_
 refine rg ?_
 refine fp fun K Z => ?_
 go_simp
 apply Z.out; clear Z K
 refine Fact.z hf fun fr1 hf1 hT => ?_
 have hKp : _ ∧ _ ∧ _ ∧ _ := ⟨hT 0, hT 3, hT 4, hT 5⟩
 simp (decide := true) only [Fact.G, hf.size, reduceIte, s0, s3, s4] at hKp
 replace hf := hf1; clear hT hf1 s0 s3 s4
 obtain ⟨s0, s3, s4, s5⟩ := hKp
 refine nx (hK8 _ _ ?_)
 refine wp_block ?_
 refine wp_loop_ghost (fun gk fr wr => ∃ (i x : Nat) (V : Value), gk = m - i ∧ i ≤ m ∧ Fact.Fr 33 fr ∧ fr.tmps[0]? = some (.int .u64 x) ∧ fr.tmps[3]? = some (.int .i64 m) ∧ fr.tmps[4]? = some V ∧ fr.tmps[5]? = some (.int .i64 i) ∧ n / 256 ^ i = x ∧ OB wr w.heap.size V (c :: leB i n) ∧ Below w.heap.size w wr) (m) ?_ ?_
 · (
 exact ⟨0, n, _, rfl, Nat.zero_le _, hf, s0, s3, s4, s5, by simp, hob, hb1⟩)
 · (
 clear hf s0 s3 s4 s5
 rintro gk fr wr ⟨i, x, V, hk, hi, hf, s0, s3, s4, s5, hx, hob, hb⟩
 have HK := Lib.hid hk; have HX := Lib.hid hx; clear hk hx
 have hx64 : x < 18446744073709551616 := by have := HX.out; have := Nat.div_le_self n (256 ^ i); omega
 refine Fact.sq fun K9 hK9 => ?_
 refine Fact.sq fun K10 hK10 => ?_
 refine rg ?_
 have b18 := hf.b 18
 have b19 := hf.b 19
 refine fp fun K Z => ?_
 go_simp
 apply Z.out; clear Z K
 refine fp fun K Z => ?_
 go_simp
 apply Z.out; clear Z K
 refine fp fun K Z => ?_
 go_simp
 apply Z.out; clear Z K
 refine Fact.z hf fun fr1 hf1 hT => ?_
 have hKp : _ ∧ _ ∧ _ ∧ _ ∧ _ := ⟨hT 0, hT 3, hT 4, hT 5, hT 20⟩
 simp (decide := true) only [Fact.G, hf.size, reduceIte, s0, s3, s4, s5] at hKp
 replace hf := hf1; clear hT hf1 s0 s3 s4 s5 b18 b19
 obtain ⟨s0, s3, s4, s5, s20⟩ := hKp
 refine nx (hK10 _ _ ?_)
 refine Fact.cond_s s20 (fun hq2 => ?_) (fun hq2 => ?_)
 · (
 have hlt : i < m := by have h9 := of_decide_eq_true hq2; omega
 clear hq2
 obtain ⟨r, hr⟩ : ∃ r, x % 256 = r := ⟨_, rfl⟩
 obtain ⟨h, hh⟩ : ∃ h, x / 256 = h := ⟨_, rfl⟩
 have hr8 : r < 256 := by omega
 have hh64 : h < 18446744073709551616 := by omega
 have hsn := leB_snoc i n
 rw [HX.out, hr] at hsn
 have HR := Lib.hid hr; have HH := Lib.hid hh; have HSN := Lib.hid hsn; clear hr hh hsn
 obtain ⟨A, cc, hv, _⟩ := row_form hob
 subst hv
 obtain ⟨l, hl⟩ : ∃ l, c :: leB i n = l := ⟨_, rfl⟩
 rw [hl] at hob
 have hll : l.length ≤ 9 := by rw [← hl]; simp [leB_length]; omega
 rw [hl] at s4
 have HL := Lib.hid hl; clear hl
 refine wp_skip ?_
 refine nx (hK9 _ _ ?_)
 refine Fact.sq fun K11 hK11 => ?_
 refine wp_block ?_
 refine Fact.sq fun K12 hK12 => ?_
 refine rg ?_
 have b23 := hf.b 23
 have b24 := hf.b 24
 have b25 := hf.b 25
 have b26 := hf.b 26
 have b27 := hf.b 27
 have b28 := hf.b 28
 refine fp fun K Z => ?_
 go_simp
 apply Z.out; clear Z K
 refine fp fun K Z => ?_
 go_simp
 apply Z.out; clear Z K
 refine fp fun K Z => ?_
 go_simp
 rw [show ((x : Nat) : Int).tmod 256 = ((r : Nat) : Int) by rw [Int.tmod_eq_emod_of_nonneg (by omega)]; have := HR.out; omega]
 apply Z.out; clear Z K
 refine fp fun K Z => ?_
 go_simp
 rw [Fact.wrap_u8 (by omega) (by omega)]
 apply Z.out; clear Z K
 refine fp fun K Z => ?_
 go_simp
 apply Z.out; clear Z K
 refine Fact.reL (n := 33) (by simp only [Fact.G, hf.size]) hf.defers (fun fr1 hf1 hT => ?_)
 have hKp : _ ∧ _ ∧ _ ∧ _ ∧ _ ∧ _ := ⟨hT 0, hT 3, hT 4, hT 5, hT 23, hT 27⟩
 simp (decide := true) only [Fact.G, hf.size, reduceIte, s0, s3, s4, s5] at hKp
 replace hf := hf1; clear hT hf1 s0 s3 s4 s5 s20 b23 b24 b25 b26 b27 b28
 obtain ⟨s0, s3, s4, s5, s23, s27⟩ := hKp
 have b28 := hf.b 28
 refine ⟨?_⟩
 refine wpList_plain rfl fun K5 hK5 => ?_
 refine wp_app _ _ 35 rfl 5 _ 1 1 Tryd.underlying35 info_u8 rfl (by decide) (by decide) w.heap.size (.slice A l.length cc) l.length _ (Fact.eval_tmp s23) (World.ownsRow.alloc hob _) wr.heap.size [.int .u8 (r : Nat)] (Fact.eval_tmp s27) rfl (lit_new wr _ _) (by intro u hu; simp at hu; subst hu; rfl) (by omega) (by have := hb.size; simp; omega) (fun v5 w5 hr5 hg5 hat5 => hK5 _ _ ?_)
 refine Fact.L.out ?_
 refine fp fun K Z => ?_
 go_simp
 apply Z.out; clear Z K
 refine Fact.z hf fun fr1 hf1 hT => ?_
 have hKp : _ ∧ _ ∧ _ ∧ _ := ⟨hT 0, hT 3, hT 4, hT 5⟩
 simp (decide := true) only [Fact.G, hf.size, reduceIte, s0, s3, s5] at hKp
 replace hf := hf1; clear hT hf1 s0 s3 s4 s5 s23 s27 b28
 obtain ⟨s0, s3, s4, s5⟩ := hKp
 have hba : But (fun k => (.slice A l.length cc : Value).ownBlock = some k) wr w5 := (But.alloc (S := fun k => (.slice A l.length cc : Value).ownBlock = some k) wr _).trans (But.grown hg5 (fun k hk => hk))
 have hb5 := hb.trans (hba.below hb.size (fun k hk => (World.ownsRow.lt hob k hk).1))
 have hob5 : OB w5 w.heap.size v5 (c :: leB (i + 1) n) := by rw [HSN.out, ← List.cons_append, HL.out]; unfold OB; rw [List.length_append, bcs_append]; exact hr5
 refine nx (hK12 _ _ ?_)
 refine rg ?_
 have b29 := hf.b 29
 have b30 := hf.b 30
 refine fp fun K Z => ?_
 go_simp
 apply Z.out; clear Z K
 refine fp fun K Z => ?_
 go_simp
 rw [show ((x : Nat) : Int) / 256 = ((h : Nat) : Int) by have := HH.out; omega, Fact.wrap_u64 (by omega) (by omega)]
 apply Z.out; clear Z K
 refine fp fun K Z => ?_
 go_simp
 apply Z.out; clear Z K
 refine Fact.z hf fun fr1 hf1 hT => ?_
 have hKp : _ ∧ _ ∧ _ ∧ _ := ⟨hT 0, hT 3, hT 4, hT 5⟩
 simp (decide := true) only [Fact.G, hf.size, reduceIte, s3, s4, s5] at hKp
 replace hf := hf1; clear hT hf1 s0 s3 s4 s5 b29 b30
 obtain ⟨s0, s3, s4, s5⟩ := hKp
 refine Fact.block_normal ?_
 refine nx (hK11 _ _ ?_)
 refine rg ?_
 have b21 := hf.b 21
 have b22 := hf.b 22
 refine fp fun K Z => ?_
 go_simp
 apply Z.out; clear Z K
 refine fp fun K Z => ?_
 go_simp
 try simp (disch := omega) only [Fact.W]
 apply Z.out; clear Z K
 refine fp fun K Z => ?_
 go_simp
 apply Z.out; clear Z K
 refine Fact.z hf fun fr1 hf1 hT => ?_
 have hKp : _ ∧ _ ∧ _ ∧ _ := ⟨hT 0, hT 3, hT 4, hT 5⟩
 simp (decide := true) only [Fact.G, hf.size, reduceIte, s0, s3, s4] at hKp
 replace hf := hf1; clear hT hf1 s0 s3 s4 s5 b21 b22
 obtain ⟨s0, s3, s4, s5⟩ := hKp
 refine Fact.then_normal ?_
 exact ⟨_, by have := HK.out; omega, i + 1, h, v5, rfl, by omega, hf, s0, s3, s4, by rw [s5]; rfl, by rw [← HH.out, ← HX.out, Nat.div_div_eq_div_mul, Nat.pow_succ], hob5, hb5⟩)
 · (
 have hie : i = m := by have h9 := of_decide_eq_false hq2; omega
 have hob2 := hob
 rw [hie] at hob2
 have hcv := OB.conv hob2
 clear hq2 hie
 refine wp_exit ?_
 refine Fact.then_exit ?_
 refine Fact.then_exit ?_
 refine Fact.block_exit ?_
 refine nx (hK7 _ _ ?_)
 refine Fact.sq fun K13 hK13 => ?_
 refine rg ?_
 have b31 := hf.b 31
 have b32 := hf.b 32
 refine fp fun K Z => ?_
 go_simp
 apply Z.out; clear Z K
 refine fp fun K Z => ?_
 go_simp
 apply Z.out; clear Z K
 refine fp fun K Z => ?_
 go_simp
 apply Z.out; clear Z K
 refine Fact.z hf fun fr1 hf1 hT => ?_
 have hKp := hT 2
 simp (decide := true) only [Fact.G, hf.size, reduceIte] at hKp
 replace hf := hf1; clear hT hf1 s0 s3 s4 s5 s20 b31 b32
 have s2 := hKp; clear hKp
 refine nx (hK13 _ _ ?_)
 refine wp_ret ?_
 refine Fact.ret1 rfl hf s2 ⟨?_, hb⟩
 unfold numB
 rw [if_neg (by omega), HM.out, HC.out])))
end Dw
end Go.Proofs.YtdkbgbdgmihlmaaDoor

namespace Go.Proofs.YtdkbgbdgmihlmaaDoor
open Go.RowKit
set_option linter.unusedSimpArgs false
set_option linter.unusedVariables false
set_option linter.unnecessarySimpa false
namespace Dw

end Dw
end Go.Proofs.YtdkbgbdgmihlmaaDoor
