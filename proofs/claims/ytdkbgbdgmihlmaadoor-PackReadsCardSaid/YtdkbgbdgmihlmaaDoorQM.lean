/- cedillaref01: Sum. -/
import Derived.Test.YtdkbgbdgmihlmaaDoorQB
import Derived.Test.YtdkbgbdgmihlmaaDoorTools
import Derived.Test.YtdkbgbdgmihlmaaDoorPBackW
namespace Go.Proofs.YtdkbgbdgmihlmaaDoor
open Go.RowKit
set_option linter.unusedSimpArgs false
set_option linter.unusedVariables false
set_option linter.unnecessarySimpa false
namespace Dw

end Dw
namespace Crc
/-- so many bits of a byte, the lowest first -/
def bitsRun (n c : Nat) : Nat → Nat
  | 0 => n
  | k + 1 => bit (bitsRun n c k) (c / 2 ^ k % 2)
theorem bitsRun8 (n c : Nat) : bitsRun n c 8 = byte n c := by
  simp only [bitsRun, byte, Nat.pow_zero, Nat.div_one, Nat.reducePow]
theorem bit_lt {n b : Nat} (hn : n < 4294967296) : bit n b < 4294967296 := by
  unfold bit
  split
  · omega
  · exact Nat.xor_lt_two_pow (n := 32) (by omega) (by decide)
end Crc
namespace Dw
set_option maxHeartbeats 4000000 in
set_option maxRecDepth 100000 in
theorem rturned (w : World) (n : Nat) (hn : n < 4294967296) : Calls Tryd.prog 42 #[.int .u32 n] w fun e w1 => e = .returned (.int .u32 (4294967295 - n : Nat)) ∧ w1 = w := by
 refine calls_of_wp Tryd.func42 rfl ?_
 refine Fact.en 5 fun fr hf hT => ?_
 have s0 := hT 0 _ rfl
 clear hT
 refine Fact.sq fun K1 hK1 => ?_
 refine rg ?_
 refine fp fun K Z => ?_
 go_simp
 apply Z.out; clear Z K
 refine Fact.z hf fun fr1 hf1 hT => ?_
 have hKp := hT 0
 simp (decide := true) only [Fact.G, reduceIte, s0] at hKp
 replace hf := hf1; clear hT hf1 s0
 have s0 := hKp; clear hKp
 refine nx (hK1 _ _ ?_)
 refine Fact.sq fun K2 hK2 => ?_
 refine rg ?_
 have b3 := hf.b 3
 have b4 := hf.b 4
 refine fp fun K Z => ?_
 go_simp
 apply Z.out; clear Z K
 refine fp fun K Z => ?_
 go_simp
 try simp (disch := omega) only [Fact.W]
 rw [show (4294967295 : Int) - ((n : Nat) : Int) = ((4294967295 - n : Nat) : Int) by omega]
 apply Z.out; clear Z K
 refine fp fun K Z => ?_
 go_simp
 apply Z.out; clear Z K
 refine Fact.z hf fun fr1 hf1 hT => ?_
 have hKp := hT 2
 simp (decide := true) only [Fact.G, hf.size, reduceIte] at hKp
 replace hf := hf1; clear hT hf1 s0 b3 b4
 have s2 := hKp; clear hKp
 refine nx (hK2 _ _ ?_)
 refine wp_ret ?_
 exact Fact.ret1 rfl hf s2 ⟨rfl, rfl⟩
set_option maxHeartbeats 4000000 in
set_option maxRecDepth 100000 in
theorem rbit (w : World) (n b : Nat) (hn : n < 4294967296) (hb : b < 2) : Calls Tryd.prog 43 #[.int .u32 n, .int .u32 b] w fun e w1 => e = .returned (.int .u32 (Crc.bit n b : Nat)) ∧ w1 = w := by
 refine calls_of_wp Tryd.func43 rfl ?_
 refine Fact.en 16 fun fr hf hT => ?_
 have s0 := hT 0 _ rfl
 have s1 := hT 1 _ rfl
 clear hT
 obtain ⟨r, hr⟩ : ∃ x, n % 2 = x := ⟨_, rfl⟩
 obtain ⟨h, hh⟩ : ∃ x, n / 2 = x := ⟨_, rfl⟩
 have hh32 : h < 4294967296 := by omega
 have HR := Lib.hid hr; have HH := Lib.hid hh; clear hr hh
 by_cases hrb : r = b
 · (
 have HB := Lib.hid hrb; clear hrb
 have q1 : ((r : Int) != (b : Int)) = false := by have := HB.out; simp; omega
 refine Fact.sq fun K1 hK1 => ?_
 refine rg ?_
 refine fp fun K Z => ?_
 go_simp
 apply Z.out; clear Z K
 refine Fact.z hf fun fr1 hf1 hT => ?_
 have hKp : _ ∧ _ := ⟨hT 0, hT 1⟩
 simp (decide := true) only [Fact.G, reduceIte, s0, s1] at hKp
 replace hf := hf1; clear hT hf1 s0 s1
 obtain ⟨s0, s1⟩ := hKp
 refine nx (hK1 _ _ ?_)
 refine Fact.sq fun K2 hK2 => ?_
 refine rg ?_
 have b6 := hf.b 6
 have b7 := hf.b 7
 have b8 := hf.b 8
 have b9 := hf.b 9
 refine fp fun K Z => ?_
 go_simp
 apply Z.out; clear Z K
 refine fp fun K Z => ?_
 go_simp
 rw [show ((n : Nat) : Int).tmod 2 = ((r : Nat) : Int) by rw [Int.tmod_eq_emod_of_nonneg (by omega)]; have := HR.out; omega]
 apply Z.out; clear Z K
 refine fp fun K Z => ?_
 go_simp
 apply Z.out; clear Z K
 refine fp fun K Z => ?_
 go_simp
 try rw [q1]
 apply Z.out; clear Z K
 refine fp fun K Z => ?_
 go_simp
 apply Z.out; clear Z K
 refine Fact.z hf fun fr1 hf1 hT => ?_
 have hKp : _ ∧ _ := ⟨hT 0, hT 5⟩
 simp (decide := true) only [Fact.G, hf.size, reduceIte, s0] at hKp
 replace hf := hf1; clear hT hf1 s0 s1 b6 b7 b8 b9
 obtain ⟨s0, s5⟩ := hKp
 refine nx (hK2 _ _ ?_)
 refine Fact.sq fun K3 hK3 => ?_
 refine rg ?_
 have b10 := hf.b 10
 have b11 := hf.b 11
 refine fp fun K Z => ?_
 go_simp
 apply Z.out; clear Z K
 refine fp fun K Z => ?_
 go_simp
 rw [show ((n : Nat) : Int) / 2 = ((h : Nat) : Int) by have := HH.out; omega, Fact.wrap_u32 (by omega) (by omega)]
 apply Z.out; clear Z K
 refine fp fun K Z => ?_
 go_simp
 apply Z.out; clear Z K
 refine Fact.z hf fun fr1 hf1 hT => ?_
 have hKp : _ ∧ _ := ⟨hT 0, hT 5⟩
 simp (decide := true) only [Fact.G, hf.size, reduceIte, s5] at hKp
 replace hf := hf1; clear hT hf1 s0 s5 b10 b11
 obtain ⟨s0, s5⟩ := hKp
 refine nx (hK3 _ _ ?_)
 refine Fact.sq fun K4 hK4 => ?_
 refine Fact.sq fun K5 hK5 => ?_
 refine rg ?_
 refine fp fun K Z => ?_
 go_simp
 apply Z.out; clear Z K
 refine Fact.z hf fun fr1 hf1 hT => ?_
 have hKp : _ ∧ _ := ⟨hT 0, hT 12⟩
 simp (decide := true) only [Fact.G, hf.size, reduceIte, s0] at hKp
 replace hf := hf1; clear hT hf1 s0 s5
 obtain ⟨s0, s12⟩ := hKp
 refine nx (hK5 _ _ ?_)
 refine Fact.cond_f s12 ?_
 refine wp_skip ?_
 refine nx (hK4 _ _ ?_)
 refine Fact.sq fun K6 hK6 => ?_
 refine rg ?_
 have b15 := hf.b 15
 refine fp fun K Z => ?_
 go_simp
 apply Z.out; clear Z K
 refine fp fun K Z => ?_
 go_simp
 apply Z.out; clear Z K
 refine Fact.z hf fun fr1 hf1 hT => ?_
 have hKp := hT 4
 simp (decide := true) only [Fact.G, hf.size, reduceIte] at hKp
 replace hf := hf1; clear hT hf1 s0 s12 b15
 have s4 := hKp; clear hKp
 refine nx (hK6 _ _ ?_)
 refine wp_ret ?_
 refine Fact.ret1 rfl hf s4 ⟨?_, rfl⟩
 unfold Crc.bit
 rw [HR.out, HH.out, if_pos HB.out])
 · (
 have HB := Lib.hid hrb; clear hrb
 have q1 : ((r : Int) != (b : Int)) = true := by have := HB.out; simp; omega
 refine Fact.sq fun K7 hK7 => ?_
 refine rg ?_
 refine fp fun K Z => ?_
 go_simp
 apply Z.out; clear Z K
 refine Fact.z hf fun fr1 hf1 hT => ?_
 have hKp : _ ∧ _ := ⟨hT 0, hT 1⟩
 simp (decide := true) only [Fact.G, reduceIte, s0, s1] at hKp
 replace hf := hf1; clear hT hf1 s0 s1
 obtain ⟨s0, s1⟩ := hKp
 refine nx (hK7 _ _ ?_)
 refine Fact.sq fun K8 hK8 => ?_
 refine rg ?_
 have b6 := hf.b 6
 have b7 := hf.b 7
 have b8 := hf.b 8
 have b9 := hf.b 9
 refine fp fun K Z => ?_
 go_simp
 apply Z.out; clear Z K
 refine fp fun K Z => ?_
 go_simp
 rw [show ((n : Nat) : Int).tmod 2 = ((r : Nat) : Int) by rw [Int.tmod_eq_emod_of_nonneg (by omega)]; have := HR.out; omega]
 apply Z.out; clear Z K
 refine fp fun K Z => ?_
 go_simp
 apply Z.out; clear Z K
 refine fp fun K Z => ?_
 go_simp
 try rw [q1]
 apply Z.out; clear Z K
 refine fp fun K Z => ?_
 go_simp
 apply Z.out; clear Z K
 refine Fact.z hf fun fr1 hf1 hT => ?_
 have hKp : _ ∧ _ := ⟨hT 0, hT 5⟩
 simp (decide := true) only [Fact.G, hf.size, reduceIte, s0] at hKp
 replace hf := hf1; clear hT hf1 s0 s1 b6 b7 b8 b9
 obtain ⟨s0, s5⟩ := hKp
 refine nx (hK8 _ _ ?_)
 refine Fact.sq fun K9 hK9 => ?_
 refine rg ?_
 have b10 := hf.b 10
 have b11 := hf.b 11
 refine fp fun K Z => ?_
 go_simp
 apply Z.out; clear Z K
 refine fp fun K Z => ?_
 go_simp
 rw [show ((n : Nat) : Int) / 2 = ((h : Nat) : Int) by have := HH.out; omega, Fact.wrap_u32 (by omega) (by omega)]
 apply Z.out; clear Z K
 refine fp fun K Z => ?_
 go_simp
 apply Z.out; clear Z K
 refine Fact.z hf fun fr1 hf1 hT => ?_
 have hKp : _ ∧ _ := ⟨hT 0, hT 5⟩
 simp (decide := true) only [Fact.G, hf.size, reduceIte, s5] at hKp
 replace hf := hf1; clear hT hf1 s0 s5 b10 b11
 obtain ⟨s0, s5⟩ := hKp
 refine nx (hK9 _ _ ?_)
 refine Fact.sq fun K10 hK10 => ?_
 refine Fact.sq fun K11 hK11 => ?_
 refine rg ?_
 refine fp fun K Z => ?_
 go_simp
 apply Z.out; clear Z K
 refine Fact.z hf fun fr1 hf1 hT => ?_
 have hKp : _ ∧ _ := ⟨hT 0, hT 12⟩
 simp (decide := true) only [Fact.G, hf.size, reduceIte, s0] at hKp
 replace hf := hf1; clear hT hf1 s0 s5
 obtain ⟨s0, s12⟩ := hKp
 refine nx (hK11 _ _ ?_)
 refine Fact.cond_t s12 ?_
 refine rg ?_
 have b13 := hf.b 13
 have b14 := hf.b 14
 refine fp fun K Z => ?_
 go_simp
 apply Z.out; clear Z K
 refine fp fun K Z => ?_
 go_simp
 rw [show (3988292384 : Int) = ((3988292384 : Nat) : Int) from rfl, u32_xor_nat h 3988292384 hh32 (by decide)]
 apply Z.out; clear Z K
 refine fp fun K Z => ?_
 go_simp
 apply Z.out; clear Z K
 refine Fact.z hf fun fr1 hf1 hT => ?_
 have hKp := hT 0
 simp (decide := true) only [Fact.G, hf.size, reduceIte] at hKp
 replace hf := hf1; clear hT hf1 s0 s12 b13 b14
 have s0 := hKp; clear hKp
 refine nx (hK10 _ _ ?_)
 refine Fact.sq fun K12 hK12 => ?_
 refine rg ?_
 have b15 := hf.b 15
 refine fp fun K Z => ?_
 go_simp
 apply Z.out; clear Z K
 refine fp fun K Z => ?_
 go_simp
 apply Z.out; clear Z K
 refine Fact.z hf fun fr1 hf1 hT => ?_
 have hKp := hT 4
 simp (decide := true) only [Fact.G, hf.size, reduceIte] at hKp
 replace hf := hf1; clear hT hf1 s0 b15
 have s4 := hKp; clear hKp
 refine nx (hK12 _ _ ?_)
 refine wp_ret ?_
 refine Fact.ret1 rfl hf s4 ⟨?_, rfl⟩
 unfold Crc.bit
 rw [HR.out, HH.out, if_neg HB.out]; rfl)
set_option maxHeartbeats 4000000 in
set_option maxRecDepth 100000 in
theorem rsum (w : World) (s : ByteArray) (hsz : s.size ≤ 1000000000) : Calls Tryd.prog 26 #[.string s] w fun e w1 => e = .returned (.int .u32 (Crc.sum (wl s) : Nat)) ∧ w1 = w := by
 refine calls_of_wp Tryd.func26 rfl ?_
 refine Fact.en 30 fun fr hf hT => ?_
 have s0 := hT 0 _ rfl
 clear hT
 refine Fact.sq fun K1 hK1 => ?_
 refine rg ?_
 refine fp fun K Z => ?_
 go_simp
 apply Z.out; clear Z K
 refine Fact.z hf fun fr1 hf1 hT => ?_
 have hKp := hT 0
 simp (decide := true) only [Fact.G, reduceIte, s0] at hKp
 replace hf := hf1; clear hT hf1 s0
 have s0 := hKp; clear hKp
 refine nx (hK1 _ _ ?_)
 refine Fact.sq fun K2 hK2 => ?_
 refine rg ?_
 have b7 := hf.b 7
 refine fp fun K Z => ?_
 go_simp
 go_at_call 42; refine (rturned w 0 (by decide)).mono ?_; rintro e w1 ⟨rfl, hwe⟩
 subst w1
 try dsimp only
 apply Z.out; clear Z K
 refine fp fun K Z => ?_
 go_simp
 apply Z.out; clear Z K
 refine Fact.z hf fun fr1 hf1 hT => ?_
 have hKp : _ ∧ _ := ⟨hT 0, hT 3⟩
 simp (decide := true) only [Fact.G, hf.size, reduceIte, s0] at hKp
 replace hf := hf1; clear hT hf1 s0 b7
 obtain ⟨s0, s3⟩ := hKp
 refine nx (hK2 _ _ ?_)
 refine Fact.sq fun K3 hK3 => ?_
 refine Fact.sq fun K4 hK4 => ?_
 refine rg ?_
 refine fp fun K Z => ?_
 go_simp
 apply Z.out; clear Z K
 refine Fact.z hf fun fr1 hf1 hT => ?_
 have hKp : _ ∧ _ ∧ _ := ⟨hT 0, hT 3, hT 4⟩
 simp (decide := true) only [Fact.G, hf.size, reduceIte, s0, s3] at hKp
 replace hf := hf1; clear hT hf1 s0 s3
 obtain ⟨s0, s3, s4⟩ := hKp
 refine nx (hK4 _ _ ?_)
 refine wp_block ?_
 refine wp_loop_ghost (fun gk fr wr => ∃ (i m : Nat), gk = s.size - i ∧ i ≤ s.size ∧ Fact.Fr 30 fr ∧ fr.tmps[0]? = some (.string s) ∧ fr.tmps[3]? = some (.int .u32 m) ∧ fr.tmps[4]? = some (.int .i64 i) ∧ m = Crc.run 4294967295 ((wl s).take i) ∧ m < 4294967296 ∧ w = wr) (s.size) ?_ ?_
 · (
 exact ⟨0, 4294967295, rfl, Nat.zero_le _, hf, s0, s3, s4, rfl, by decide, rfl⟩)
 · (
 clear hf s0 s3 s4
 rintro gk fr wr ⟨i, m, hk, hi, hf, s0, s3, s4, hm, hm32, hw⟩
 subst wr
 have HK := Lib.hid hk; have HM := Lib.hid hm; clear hk hm
 refine Fact.sq fun K5 hK5 => ?_
 refine Fact.sq fun K6 hK6 => ?_
 refine rg ?_
 have b8 := hf.b 8
 have b9 := hf.b 9
 have b10 := hf.b 10
 refine fp fun K Z => ?_
 go_simp
 apply Z.out; clear Z K
 refine fp fun K Z => ?_
 go_simp
 apply Z.out; clear Z K
 refine fp fun K Z => ?_
 go_simp
 apply Z.out; clear Z K
 refine fp fun K Z => ?_
 go_simp
 apply Z.out; clear Z K
 refine Fact.z hf fun fr1 hf1 hT => ?_
 have hKp : _ ∧ _ ∧ _ ∧ _ := ⟨hT 0, hT 3, hT 4, hT 11⟩
 simp (decide := true) only [Fact.G, hf.size, reduceIte, s0, s3, s4] at hKp
 replace hf := hf1; clear hT hf1 s0 s3 s4 b8 b9 b10
 obtain ⟨s0, s3, s4, s11⟩ := hKp
 refine nx (hK6 _ _ ?_)
 refine Fact.cond_s s11 (fun hq => ?_) (fun hq => ?_)
 · (
 have hlt : i < s.size := by have h9 := of_decide_eq_true hq; omega
 clear hq
 obtain ⟨c, hc⟩ : ∃ c, at_ s i = c := ⟨_, rfl⟩
 have hc8 : c < 256 := by rw [← hc]; exact at_lt s i
 have hst : Crc.run 4294967295 ((wl s).take (i + 1)) = Crc.byte m c := by rw [List.take_add_one, wl_at hlt, Option.toList_some, hc]; unfold Crc.run at *; rw [List.foldl_append, ← HM.out]; rfl
 have hat2 : s[i].toNat = c := by rw [← hc]; exact (at_get hlt).symm
 have HST := Lib.hid hst; have HC := Lib.hid hc; clear hst hc
 refine wp_skip ?_
 refine nx (hK5 _ _ ?_)
 refine Fact.sq fun K7 hK7 => ?_
 refine wp_block ?_
 refine Fact.sq fun K8 hK8 => ?_
 refine rg ?_
 have b14 := hf.b 14
 have b15 := hf.b 15
 have b16 := hf.b 16
 have b17 := hf.b 17
 refine fp fun K Z => ?_
 go_simp
 apply Z.out; clear Z K
 refine fp fun K Z => ?_
 go_simp
 apply Z.out; clear Z K
 refine fp fun K Z => ?_
 go_simp
 try rw [if_pos hlt]
 try rw [hat2]
 apply Z.out; clear Z K
 refine fp fun K Z => ?_
 go_simp
 try rw [Fact.wrap_u32 (by omega) (by omega)]
 apply Z.out; clear Z K
 refine fp fun K Z => ?_
 go_simp
 apply Z.out; clear Z K
 refine Fact.z hf fun fr1 hf1 hT => ?_
 have hKp : _ ∧ _ ∧ _ ∧ _ := ⟨hT 0, hT 3, hT 4, hT 5⟩
 simp (decide := true) only [Fact.G, hf.size, reduceIte, s0, s3, s4] at hKp
 replace hf := hf1; clear hT hf1 s0 s3 s4 s11 b14 b15 b16 b17
 obtain ⟨s0, s3, s4, s5⟩ := hKp
 refine nx (hK8 _ _ ?_)
 refine Fact.sq fun K9 hK9 => ?_
 refine rg ?_
 refine fp fun K Z => ?_
 go_simp
 apply Z.out; clear Z K
 refine Fact.z hf fun fr1 hf1 hT => ?_
 have hKp : _ ∧ _ ∧ _ ∧ _ ∧ _ := ⟨hT 0, hT 3, hT 4, hT 5, hT 6⟩
 simp (decide := true) only [Fact.G, hf.size, reduceIte, s0, s3, s4, s5] at hKp
 replace hf := hf1; clear hT hf1 s0 s3 s4 s5
 obtain ⟨s0, s3, s4, s5, s6⟩ := hKp
 refine nx (hK9 _ _ ?_)
 refine wp_block ?_
 refine wp_loop_ghost (fun gk2 fr w2 => ∃ (k m2 c2 : Nat), gk2 = 8 - k ∧ k ≤ 8 ∧ Fact.Fr 30 fr ∧ fr.tmps[0]? = some (.string s) ∧ fr.tmps[3]? = some (.int .u32 m2) ∧ fr.tmps[4]? = some (.int .i64 i) ∧ fr.tmps[5]? = some (.int .u32 c2) ∧ fr.tmps[6]? = some (.int .i64 k) ∧ m2 = Crc.bitsRun m c k ∧ c2 = c / 2 ^ k ∧ m2 < 4294967296 ∧ w = w2) (8) ?_ ?_
 · (
 exact ⟨0, _, _, rfl, Nat.zero_le _, hf, s0, s3, s4, s5, s6, rfl, by simp, hm32, rfl⟩)
 · (
 clear hf s0 s3 s4 s5 s6
 rintro gk2 fr w2 ⟨k, m2, c2, hk2, hk8, hf, s0, s3, s4, s5, s6, hm2, hc2, hm232, hw2⟩
 subst w2
 have HK2 := Lib.hid hk2; have HM2 := Lib.hid hm2; have HC2 := Lib.hid hc2; clear hk2 hm2 hc2
 have hc256 : c2 < 256 := by rw [HC2.out]; exact Nat.lt_of_le_of_lt (Nat.div_le_self _ _) hc8
 refine Fact.sq fun K10 hK10 => ?_
 refine Fact.sq fun K11 hK11 => ?_
 refine rg ?_
 have b18 := hf.b 18
 refine fp fun K Z => ?_
 go_simp
 apply Z.out; clear Z K
 refine fp fun K Z => ?_
 go_simp
 apply Z.out; clear Z K
 refine Fact.z hf fun fr1 hf1 hT => ?_
 have hKp : _ ∧ _ ∧ _ ∧ _ ∧ _ ∧ _ := ⟨hT 0, hT 3, hT 4, hT 5, hT 6, hT 19⟩
 simp (decide := true) only [Fact.G, hf.size, reduceIte, s0, s3, s4, s5, s6] at hKp
 replace hf := hf1; clear hT hf1 s0 s3 s4 s5 s6 b18
 obtain ⟨s0, s3, s4, s5, s6, s19⟩ := hKp
 refine nx (hK11 _ _ ?_)
 refine Fact.cond_s s19 (fun hq2 => ?_) (fun hq2 => ?_)
 · (
 have hklt : k < 8 := by have h9 := of_decide_eq_true hq2; omega
 clear hq2
 obtain ⟨r, hr⟩ : ∃ x, c2 % 2 = x := ⟨_, rfl⟩
 obtain ⟨h, hh⟩ : ∃ x, c2 / 2 = x := ⟨_, rfl⟩
 have hr2 : r < 2 := by omega
 have hh256 : h < 256 := by omega
 have HR := Lib.hid hr; have HH := Lib.hid hh; clear hr hh
 refine wp_skip ?_
 refine nx (hK10 _ _ ?_)
 refine Fact.sq fun K12 hK12 => ?_
 refine wp_block ?_
 refine Fact.sq fun K13 hK13 => ?_
 refine rg ?_
 have b22 := hf.b 22
 have b23 := hf.b 23
 have b24 := hf.b 24
 have b25 := hf.b 25
 refine fp fun K Z => ?_
 go_simp
 apply Z.out; clear Z K
 refine fp fun K Z => ?_
 go_simp
 apply Z.out; clear Z K
 refine fp fun K Z => ?_
 go_simp
 rw [show ((c2 : Nat) : Int).tmod 2 = ((r : Nat) : Int) by rw [Int.tmod_eq_emod_of_nonneg (by omega)]; have := HR.out; omega]
 apply Z.out; clear Z K
 refine fp fun K Z => ?_
 go_simp
 go_at_call 43; refine (rbit w m2 r hm232 hr2).mono ?_; rintro e w3 ⟨rfl, hwe⟩
 subst w3
 obtain ⟨m3, hm3⟩ : ∃ x, Crc.bit m2 r = x := ⟨_, rfl⟩
 rw [hm3]
 have hm332 : m3 < 4294967296 := by rw [← hm3]; exact Crc.bit_lt hm232
 have HM3 := Lib.hid hm3; clear hm3
 try dsimp only
 apply Z.out; clear Z K
 refine fp fun K Z => ?_
 go_simp
 apply Z.out; clear Z K
 refine Fact.z hf fun fr1 hf1 hT => ?_
 have hKp : _ ∧ _ ∧ _ ∧ _ ∧ _ := ⟨hT 0, hT 3, hT 4, hT 5, hT 6⟩
 simp (decide := true) only [Fact.G, hf.size, reduceIte, s0, s4, s5, s6] at hKp
 replace hf := hf1; clear hT hf1 s0 s3 s4 s5 s6 s19 b22 b23 b24 b25
 obtain ⟨s0, s3, s4, s5, s6⟩ := hKp
 refine nx (hK13 _ _ ?_)
 refine rg ?_
 have b26 := hf.b 26
 have b27 := hf.b 27
 refine fp fun K Z => ?_
 go_simp
 apply Z.out; clear Z K
 refine fp fun K Z => ?_
 go_simp
 rw [show ((c2 : Nat) : Int) / 2 = ((h : Nat) : Int) by have := HH.out; omega, Fact.wrap_u32 (by omega) (by omega)]
 apply Z.out; clear Z K
 refine fp fun K Z => ?_
 go_simp
 apply Z.out; clear Z K
 refine Fact.z hf fun fr1 hf1 hT => ?_
 have hKp : _ ∧ _ ∧ _ ∧ _ ∧ _ := ⟨hT 0, hT 3, hT 4, hT 5, hT 6⟩
 simp (decide := true) only [Fact.G, hf.size, reduceIte, s0, s3, s4, s6] at hKp
 replace hf := hf1; clear hT hf1 s0 s3 s4 s5 s6 b26 b27
 obtain ⟨s0, s3, s4, s5, s6⟩ := hKp
 refine Fact.block_normal ?_
 refine nx (hK12 _ _ ?_)
 refine rg ?_
 have b20 := hf.b 20
 have b21 := hf.b 21
 refine fp fun K Z => ?_
 go_simp
 apply Z.out; clear Z K
 refine fp fun K Z => ?_
 go_simp
 try simp (disch := omega) only [Fact.W]
 apply Z.out; clear Z K
 refine fp fun K Z => ?_
 go_simp
 apply Z.out; clear Z K
 refine Fact.z hf fun fr1 hf1 hT => ?_
 have hKp : _ ∧ _ ∧ _ ∧ _ ∧ _ := ⟨hT 0, hT 3, hT 4, hT 5, hT 6⟩
 simp (decide := true) only [Fact.G, hf.size, reduceIte, s0, s3, s4, s5] at hKp
 replace hf := hf1; clear hT hf1 s0 s3 s4 s5 s6 b20 b21
 obtain ⟨s0, s3, s4, s5, s6⟩ := hKp
 refine Fact.then_normal ?_
 exact ⟨_, by have := HK2.out; omega, k + 1, m3, h, rfl, by omega, hf, s0, s3, s4, s5, by rw [s6]; rfl, by rw [← HM3.out, ← HR.out, HM2.out, HC2.out]; rfl, by rw [← HH.out, HC2.out, Nat.div_div_eq_div_mul, Nat.pow_succ], hm332, rfl⟩)
 · (
 have hke : k = 8 := by have h9 := of_decide_eq_false hq2; omega
 have hm8 : m2 = Crc.byte m c := by rw [HM2.out, hke]; exact Crc.bitsRun8 m c
 have HM8 := Lib.hid hm8; clear hm8 hke hq2
 refine wp_exit ?_
 refine Fact.then_exit ?_
 refine Fact.then_exit ?_
 refine Fact.block_exit ?_
 refine Fact.block_normal ?_
 refine nx (hK7 _ _ ?_)
 refine rg ?_
 have b12 := hf.b 12
 have b13 := hf.b 13
 refine fp fun K Z => ?_
 go_simp
 apply Z.out; clear Z K
 refine fp fun K Z => ?_
 go_simp
 try simp (disch := omega) only [Fact.W]
 apply Z.out; clear Z K
 refine fp fun K Z => ?_
 go_simp
 apply Z.out; clear Z K
 refine Fact.z hf fun fr1 hf1 hT => ?_
 have hKp : _ ∧ _ ∧ _ := ⟨hT 0, hT 3, hT 4⟩
 simp (decide := true) only [Fact.G, hf.size, reduceIte, s0, s3] at hKp
 replace hf := hf1; clear hT hf1 s0 s3 s4 s5 s6 s19 b12 b13
 obtain ⟨s0, s3, s4⟩ := hKp
 refine Fact.then_normal ?_
 exact ⟨_, by have := HK.out; omega, i + 1, m2, rfl, by omega, hf, s0, s3, by rw [s4]; rfl, by rw [HM8.out, ← HST.out], hm232, rfl⟩)))
 · (
 have hie : i = s.size := by have h9 := of_decide_eq_false hq; omega
 have hme : m = Crc.run 4294967295 (wl s) := by have h9 := HM.out; rwa [hie, List.take_of_length_le (by rw [wl_length]; omega)] at h9
 have HME := Lib.hid hme; clear hme hie hq
 refine wp_exit ?_
 refine Fact.then_exit ?_
 refine Fact.then_exit ?_
 refine Fact.block_exit ?_
 refine nx (hK3 _ _ ?_)
 refine Fact.sq fun K14 hK14 => ?_
 refine rg ?_
 have b28 := hf.b 28
 have b29 := hf.b 29
 refine fp fun K Z => ?_
 go_simp
 apply Z.out; clear Z K
 refine fp fun K Z => ?_
 go_simp
 go_at_call 42; refine (rturned w m hm32).mono ?_; rintro e w1 ⟨rfl, hwe⟩
 subst w1
 try dsimp only
 apply Z.out; clear Z K
 refine fp fun K Z => ?_
 go_simp
 apply Z.out; clear Z K
 refine Fact.z hf fun fr1 hf1 hT => ?_
 have hKp := hT 2
 simp (decide := true) only [Fact.G, hf.size, reduceIte] at hKp
 replace hf := hf1; clear hT hf1 s0 s3 s4 s11 b28 b29
 have s2 := hKp; clear hKp
 refine nx (hK14 _ _ ?_)
 refine wp_ret ?_
 exact Fact.ret1 rfl hf s2 ⟨by unfold Crc.sum; rw [HME.out], rfl⟩))
end Dw
end Go.Proofs.YtdkbgbdgmihlmaaDoor

namespace Go.Proofs.YtdkbgbdgmihlmaaDoor
open Go.RowKit
set_option linter.unusedSimpArgs false
set_option linter.unusedVariables false
set_option linter.unnecessarySimpa false
namespace Dw

theorem conv_lit (w : World) (l : List Nat) : (convert 35 9 (.slice (some ⟨w.heap.size, 0, none⟩) l.length l.length)).run Tryd.prog (w.alloc (.cells (bcs l).toArray 5)) = .ok (.string (bl l)) (w.alloc (.cells (bcs l).toArray 5)) := by
  refine run_convert_bytes_arg (P := Tryd.prog) _ 35 5 Tryd.underlying35 Tryd.underlying5 w.heap.size 0 l.length l.length (l.map fun (x : Nat) => (x : Int)) (by simp) (fun i hi => ?_) 9 Tryd.underlying9
  rw [Nat.zero_add, lit_new w (bcs l) 5 i (.int .u8 (l[i] : Nat)) (by unfold bcs; rw [List.getElem?_map, List.getElem?_eq_getElem hi]; rfl)]
  simp [hi]
theorem four_eq {n a b c d qa qb qc qd : Nat} (ha : qa % 256 = a) (hb : qb % 256 = b) (hc : qc % 256 = c) (hd : qd % 256 = d) (h1 : n = qa) (h2 : n / 256 = qb) (h3 : n / 65536 = qc) (h4 : n / 16777216 = qd) : Crc.four n = [a, b, c, d] := by
  unfold Crc.four
  rw [h2, h3, h4, hb, hc, hd, h1, ha]
theorem opened_small {l : List Nat} (h : l.length < 4) : Crc.opened l = none := by
  unfold Crc.opened
  rw [if_neg (by omega)]
theorem opened_cases (l : List Nat) (n : Nat) (h : l.length = n + 4) : Crc.opened l = none ∨ Crc.opened l = some (l.take n) := by
  unfold Crc.opened
  split
  · right; rw [h, Nat.add_sub_cancel]
  · left; rfl
theorem open_ok {A B : ByteArray} {l : List Nat} {n : Nat} (h1 : wl A = l.take n) (h2 : wl B = l.drop n) (h : l.length = n + 4) (ho : Crc.opened l = some (l.take n)) : B = bl (Crc.four (Crc.sum (wl A))) := by
  have h3 := Crc.opened_some ho
  refine wl_inj ?_
  rw [wl_bl (four_small _), h2, h1]
  conv => lhs; rw [h3]
  unfold Crc.seal'
  have hl : (l.take n).length = n := by rw [List.length_take]; omega
  conv => lhs; rw [show n = (l.take n).length from hl.symm]
  rw [hl, List.drop_left' hl]
theorem open_no {A B : ByteArray} {l : List Nat} {n : Nat} (h1 : wl A = l.take n) (h2 : wl B = l.drop n) (h : l.length = n + 4) (ho : Crc.opened l = none) : B ≠ bl (Crc.four (Crc.sum (wl A))) := by
  intro e
  have h3 := congrArg wl e
  rw [wl_bl (four_small _), h2, h1] at h3
  unfold Crc.opened at ho
  rw [if_pos ⟨by omega, by rw [h, Nat.add_sub_cancel]; unfold Crc.seal'; rw [← h3, List.take_append_drop]⟩] at ho
  cases ho
set_option maxHeartbeats 4000000 in
set_option maxRecDepth 100000 in
theorem rfour (w : World) (n : Nat) (hn : n < 4294967296) : Calls Tryd.prog 25 #[.int .u32 n] w fun e w1 => e = .returned (.string (bl (Crc.four n))) ∧ Below w.heap.size w w1 := by
 refine calls_of_wp Tryd.func25 rfl ?_
 refine Fact.en 19 fun fr hf hT => ?_
 have s0 := hT 0 _ rfl
 clear hT
 obtain ⟨qa, hqa⟩ : ∃ x, n = x := ⟨_, rfl⟩
 obtain ⟨a, ha⟩ : ∃ x, qa % 256 = x := ⟨_, rfl⟩
 have hla : a < 256 := by omega
 have hka : qa < 4294967296 := by omega
 obtain ⟨qb, hqb⟩ : ∃ x, n / 256 = x := ⟨_, rfl⟩
 obtain ⟨b, hb⟩ : ∃ x, qb % 256 = x := ⟨_, rfl⟩
 have hlb : b < 256 := by omega
 have hkb : qb < 4294967296 := by omega
 obtain ⟨qc, hqc⟩ : ∃ x, n / 65536 = x := ⟨_, rfl⟩
 obtain ⟨c, hc⟩ : ∃ x, qc % 256 = x := ⟨_, rfl⟩
 have hlc : c < 256 := by omega
 have hkc : qc < 4294967296 := by omega
 obtain ⟨qd, hqd⟩ : ∃ x, n / 16777216 = x := ⟨_, rfl⟩
 obtain ⟨d, hd⟩ : ∃ x, qd % 256 = x := ⟨_, rfl⟩
 have hld : d < 256 := by omega
 have hkd : qd < 4294967296 := by omega
 have hqd2 : qd = d := by omega
 have HQA := Lib.hid hqa; have HQB := Lib.hid hqb; have HQC := Lib.hid hqc; have HQD := Lib.hid hqd; have HA := Lib.hid ha; have HB := Lib.hid hb; have HC := Lib.hid hc; have HD := Lib.hid hd; have HQD2 := Lib.hid hqd2; clear hqa hqb hqc hqd ha hb hc hd hqd2
 refine Fact.sq fun K1 hK1 => ?_
 refine rg ?_
 refine fp fun K Z => ?_
 go_simp
 apply Z.out; clear Z K
 refine Fact.z hf fun fr1 hf1 hT => ?_
 have hKp := hT 0
 simp (decide := true) only [Fact.G, reduceIte, s0] at hKp
 replace hf := hf1; clear hT hf1 s0
 have s0 := hKp; clear hKp
 refine nx (hK1 _ _ ?_)
 refine Fact.sq fun K2 hK2 => ?_
 refine rg ?_
 have b3 := hf.b 3
 have b4 := hf.b 4
 have b5 := hf.b 5
 have b6 := hf.b 6
 have b7 := hf.b 7
 have b8 := hf.b 8
 have b9 := hf.b 9
 have b10 := hf.b 10
 have b11 := hf.b 11
 have b12 := hf.b 12
 have b13 := hf.b 13
 have b14 := hf.b 14
 have b15 := hf.b 15
 have b16 := hf.b 16
 have b17 := hf.b 17
 have b18 := hf.b 18
 refine fp fun K Z => ?_
 go_simp
 apply Z.out; clear Z K
 refine fp fun K Z => ?_
 go_simp
 rw [show ((n : Nat) : Int).tmod 256 = ((a : Nat) : Int) by rw [Int.tmod_eq_emod_of_nonneg (by omega)]; have := HA.out; have := HQA.out; omega]
 apply Z.out; clear Z K
 refine fp fun K Z => ?_
 go_simp
 rw [Fact.wrap_u8 (by omega) (by omega)]
 apply Z.out; clear Z K
 refine fp fun K Z => ?_
 go_simp
 apply Z.out; clear Z K
 refine fp fun K Z => ?_
 go_simp
 rw [show ((n : Nat) : Int) / 256 = ((qb : Nat) : Int) by have := HQB.out; omega, Fact.wrap_u32 (by omega) (by omega)]
 apply Z.out; clear Z K
 refine fp fun K Z => ?_
 go_simp
 rw [show ((qb : Nat) : Int).tmod 256 = ((b : Nat) : Int) by rw [Int.tmod_eq_emod_of_nonneg (by omega)]; have := HB.out; have := HQB.out; omega]
 apply Z.out; clear Z K
 refine fp fun K Z => ?_
 go_simp
 rw [Fact.wrap_u8 (by omega) (by omega)]
 apply Z.out; clear Z K
 refine fp fun K Z => ?_
 go_simp
 apply Z.out; clear Z K
 refine fp fun K Z => ?_
 go_simp
 rw [show ((n : Nat) : Int) / 65536 = ((qc : Nat) : Int) by have := HQC.out; omega, Fact.wrap_u32 (by omega) (by omega)]
 apply Z.out; clear Z K
 refine fp fun K Z => ?_
 go_simp
 rw [show ((qc : Nat) : Int).tmod 256 = ((c : Nat) : Int) by rw [Int.tmod_eq_emod_of_nonneg (by omega)]; have := HC.out; have := HQC.out; omega]
 apply Z.out; clear Z K
 refine fp fun K Z => ?_
 go_simp
 rw [Fact.wrap_u8 (by omega) (by omega)]
 apply Z.out; clear Z K
 refine fp fun K Z => ?_
 go_simp
 apply Z.out; clear Z K
 refine fp fun K Z => ?_
 go_simp
 rw [show ((n : Nat) : Int) / 16777216 = ((qd : Nat) : Int) by have := HQD.out; omega, Fact.wrap_u32 (by omega) (by omega)]
 apply Z.out; clear Z K
 refine fp fun K Z => ?_
 go_simp
 rw [show ((qd : Nat) : Int) = ((d : Nat) : Int) by have := HQD2.out; omega, Fact.wrap_u8 (by omega) (by omega)]
 apply Z.out; clear Z K
 refine fp fun K Z => ?_
 go_simp
 have hcv := conv_lit w [a, b, c, d]
 have hb1 : Below w.heap.size w (w.alloc (.cells #[.int .u8 (a : Nat), .int .u8 (b : Nat), .int .u8 (c : Nat), .int .u8 (d : Nat)] 5)) := (Below.refl _ _).alloc (Nat.le_refl _) _
 simp only [bcs, List.map_cons, List.map_nil, List.length_cons, List.length_nil, Nat.zero_add, Nat.reduceAdd] at hcv
 obtain ⟨W1, hW1⟩ : ∃ x, w.alloc (.cells #[.int .u8 (a : Nat), .int .u8 (b : Nat), .int .u8 (c : Nat), .int .u8 (d : Nat)] 5) = x := ⟨_, rfl⟩
 rw [hW1] at hcv hb1
 rw [hW1]
 clear hW1
 apply Z.out; clear Z K
 refine fp fun K Z => ?_
 go_simp
 apply Z.out; clear Z K
 refine fp fun K Z => ?_
 go_simp
 apply Z.out; clear Z K
 refine Fact.z hf fun fr1 hf1 hT => ?_
 have hKp := hT 2
 simp (decide := true) only [Fact.G, hf.size, reduceIte] at hKp
 replace hf := hf1; clear hT hf1 s0 b3 b4 b5 b6 b7 b8 b9 b10 b11 b12 b13 b14 b15 b16 b17 b18
 have s2 := hKp; clear hKp
 refine nx (hK2 _ _ ?_)
 refine wp_ret ?_
 refine Fact.ret1 rfl hf s2 ⟨?_, hb1⟩
 rw [four_eq HA.out HB.out HC.out HD.out HQA.out HQB.out HQC.out HQD.out]
set_option maxHeartbeats 4000000 in
set_option maxRecDepth 100000 in
theorem rseal (w : World) (s : ByteArray) (hsz : s.size ≤ 900000000) : Calls Tryd.prog 12 #[.string s] w fun e w1 => e = .returned (.string (bl (Crc.seal' (wl s)))) ∧ Below w.heap.size w w1 := by
 refine calls_of_wp Tryd.func12 rfl ?_
 refine Fact.en 8 fun fr hf hT => ?_
 have s0 := hT 0 _ rfl
 clear hT
 refine Fact.sq fun K1 hK1 => ?_
 refine rg ?_
 refine fp fun K Z => ?_
 go_simp
 apply Z.out; clear Z K
 refine Fact.z hf fun fr1 hf1 hT => ?_
 have hKp := hT 0
 simp (decide := true) only [Fact.G, reduceIte, s0] at hKp
 replace hf := hf1; clear hT hf1 s0
 have s0 := hKp; clear hKp
 refine nx (hK1 _ _ ?_)
 refine Fact.sq fun K2 hK2 => ?_
 refine rg ?_
 have b3 := hf.b 3
 have b4 := hf.b 4
 have b5 := hf.b 5
 have b6 := hf.b 6
 have b7 := hf.b 7
 refine fp fun K Z => ?_
 go_simp
 apply Z.out; clear Z K
 refine fp fun K Z => ?_
 go_simp
 apply Z.out; clear Z K
 refine fp fun K Z => ?_
 go_simp
 go_at_call 26; refine (rsum w s (by omega)).mono ?_; rintro e w1 ⟨rfl, hwe⟩
 subst w1
 have hs32 := Crc.sum_lt (wl s)
 try dsimp only
 apply Z.out; clear Z K
 refine fp fun K Z => ?_
 go_simp
 go_at_call 25; refine (rfour w (Crc.sum (wl s)) hs32).mono ?_; rintro e w2 ⟨rfl, hb2⟩
 obtain ⟨T, hT⟩ : ∃ x, bl (Crc.four (Crc.sum (wl s))) = x := ⟨_, rfl⟩
 rw [hT]
 have hT4 : T.size = 4 := by rw [← hT, bl_size]; rfl
 have HT := Lib.hid hT; have HT4 := Lib.hid hT4; clear hT hT4
 try dsimp only
 apply Z.out; clear Z K
 refine fp fun K Z => ?_
 go_simp
 try simp (disch := omega) only [Fact.W]
 rw [if_neg (by have := HT4.out; omega)]
 rw [Oper.upon_value]
 apply Z.out; clear Z K
 refine fp fun K Z => ?_
 go_simp
 apply Z.out; clear Z K
 refine Fact.z hf fun fr1 hf1 hT => ?_
 have hKp := hT 2
 simp (decide := true) only [Fact.G, hf.size, reduceIte] at hKp
 replace hf := hf1; clear hT hf1 s0 b3 b4 b5 b6 b7
 have s2 := hKp; clear hKp
 refine nx (hK2 _ _ ?_)
 refine wp_ret ?_
 refine Fact.ret1 rfl hf s2 ⟨?_, hb2⟩
 rw [← HT.out, show bl (Crc.seal' (wl s)) = s ++ bl (Crc.four (Crc.sum (wl s))) by unfold Crc.seal'; rw [bl_append, bl_wl]]
set_option maxHeartbeats 4000000 in
set_option maxRecDepth 100000 in
theorem ropen (w : World) (s : ByteArray) (hsz : s.size ≤ 900000000) : Calls Tryd.prog 10 #[.string s] w fun e w1 => e = .returned (.tuple #[.string (openR (Crc.opened (wl s))).1, .bool (openR (Crc.opened (wl s))).2]) ∧ Below w.heap.size w w1 := by
 refine calls_of_wp Tryd.func10 rfl ?_
 refine Fact.en 24 fun fr hf hT => ?_
 have s0 := hT 0 _ rfl
 clear hT
 rcases Nat.lt_or_ge s.size 4 with h4 | h4
 · (
 have q1 : decide ((s.size : Int) - 4 < 0) = true := decide_eq_true (by omega)
 refine Fact.sq fun K1 hK1 => ?_
 refine rg ?_
 refine fp fun K Z => ?_
 go_simp
 apply Z.out; clear Z K
 refine fp fun K Z => ?_
 go_simp
 apply Z.out; clear Z K
 refine Fact.z hf fun fr1 hf1 hT => ?_
 have hKp := hT 0
 simp (decide := true) only [Fact.G, reduceIte, s0] at hKp
 replace hf := hf1; clear hT hf1 s0
 have s0 := hKp; clear hKp
 refine nx (hK1 _ _ ?_)
 refine Fact.sq fun K2 hK2 => ?_
 refine rg ?_
 have b5 := hf.b 5
 have b6 := hf.b 6
 have b7 := hf.b 7
 refine fp fun K Z => ?_
 go_simp
 apply Z.out; clear Z K
 refine fp fun K Z => ?_
 go_simp
 apply Z.out; clear Z K
 refine fp fun K Z => ?_
 go_simp
 try simp (disch := omega) only [Fact.W]
 try rw [Fact.wrap_i64 (by omega) (by omega)]
 apply Z.out; clear Z K
 refine fp fun K Z => ?_
 go_simp
 apply Z.out; clear Z K
 refine Fact.z hf fun fr1 hf1 hT => ?_
 have hKp : _ ∧ _ := ⟨hT 0, hT 4⟩
 simp (decide := true) only [Fact.G, hf.size, reduceIte, s0] at hKp
 replace hf := hf1; clear hT hf1 s0 b5 b6 b7
 obtain ⟨s0, s4⟩ := hKp
 refine nx (hK2 _ _ ?_)
 refine Fact.sq fun K3 hK3 => ?_
 refine Fact.sq fun K4 hK4 => ?_
 refine Stab.tb 24 fun hok => ?_
 refine Stab.mO 0 s4 hf hok ?_
 apply Stab.tq 1 _ hf hok
 · (
 intro fr1 w1 hh hd hk K Z
 have s8 := Stab.v 0 0 hd hk []
 clear hd
 go_simp
 try rw [q1]
 exact Stab.k Z)
 refine Stab.mN 2 1 0 hf hok [] ?_
 apply Stab.tr 3 _ hf hok
 · (
 intro fr1 w1 hh hd hk K Z
 have s10 := Stab.v 2 0 hd hk []
 refine Stab.sk s10 ?_
 exact Stab.k Z)
 apply Stab.tr 4 _ hf hok
 · (
 intro fr1 w1 hh hd hk K Z
 have s10 := Stab.v 2 1 hd hk []
 refine Stab.sk s10 ?_
 exact Stab.k Z)
 apply Stab.tr 5 _ hf hok
 · (
 intro fr1 w1 hh hd hk K Z
 have s10 := Stab.v 2 2 hd hk []
 refine Stab.sk s10 ?_
 exact Stab.k Z)
 apply Stab.tr 6 _ hf hok
 · (
 intro fr1 w1 hh hd hk K Z
 have s10 := Stab.v 2 3 hd hk []
 refine Stab.sk s10 ?_
 exact Stab.k Z)
 apply Stab.tr 7 _ hf hok
 · (
 intro fr1 w1 hh hd hk K Z
 have s10 := Stab.v 2 4 hd hk []
 refine Stab.sk s10 ?_
 exact Stab.k Z)
 apply Stab.tr 8 _ hf hok
 · (
 intro fr1 w1 hh hd hk K Z
 have s10 := Stab.v 2 5 hd hk []
 refine Stab.sk s10 ?_
 exact Stab.k Z)
 apply Stab.tr 9 _ hf hok
 · (
 intro fr1 w1 hh hd hk K Z
 have s10 := Stab.v 2 6 hd hk []
 refine Stab.sk s10 ?_
 exact Stab.k Z)
 apply Stab.tr 10 _ hf hok
 · (
 intro fr1 w1 hh hd hk K Z
 have s10 := Stab.v 2 7 hd hk []
 refine Stab.sk s10 ?_
 exact Stab.k Z)
 apply Stab.tr 11 _ hf hok
 · (
 intro fr1 w1 hh hd hk K Z
 have s10 := Stab.v 2 8 hd hk []
 refine Stab.sk s10 ?_
 exact Stab.k Z)
 apply Stab.tq 12 _ hf hok
 · (
 intro fr1 w1 hh hd hk K Z
 have s10 := Stab.v 2 9 hd hk []
 have s19 := Stab.v 11 0 hd hk []
 clear hd
 go_simp
 exact Stab.k Z)
 refine Stab.tf hf hok fun fr1 w1 hh hg => ?_
 replace s0 := Stab.O hh s0
 replace s4 := Stab.O hh s4
 have s20 := Stab.f 12 0 hg
 have hf1 := hh.fr hf
 have hx := hh.ext
 clear hg hh hf hok
 have hf := hf1; clear hf1
 refine nx (hK4 _ _ ?_)
 refine Fact.cond_t s20 ?_
 refine Fact.sq fun K5 hK5 => ?_
 refine rg ?_
 refine fp fun K Z => ?_
 go_simp
 apply Z.out; clear Z K
 refine fp fun K Z => ?_
 go_simp
 apply Z.out; clear Z K
 refine Fact.z hf fun fr1 hf1 hT => ?_
 have hKp : _ ∧ _ := ⟨hT 2, hT 3⟩
 simp (decide := true) only [Fact.G, hf.size, reduceIte] at hKp
 replace hf := hf1; clear hT hf1 s0 s4 s20
 obtain ⟨s2, s3⟩ := hKp
 refine nx (hK5 _ _ ?_)
 refine wp_ret ?_
 refine Fact.then_ret ?_
 refine Fact.ret2 rfl hf s2 s3 ⟨?_, hx⟩
 rw [opened_small (by rw [wl_length]; omega)]
 rfl)
 · (
 obtain ⟨n, hn⟩ : ∃ n, s.size = n + 4 := ⟨s.size - 4, by omega⟩
 have HN := Lib.hid hn; clear hn
 have q1 : decide ((n : Int) < 0) = false := decide_eq_false (by omega)
 obtain ⟨A, hA⟩ : ∃ x, s.extract 0 n = x := ⟨_, rfl⟩
 obtain ⟨B, hB⟩ : ∃ x, s.extract n s.size = x := ⟨_, rfl⟩
 have hwa : wl A = (wl s).take n := by rw [← hA, wl_extract, List.drop_zero]
 have hwb : wl B = (wl s).drop n := by rw [← hB, wl_extract, List.take_of_length_le (by rw [wl_length]; exact Nat.le_refl _)]
 have hsa : A.size = n := by rw [← wl_length, hwa, List.length_take, wl_length]; have := HN.out; omega
 have HA := Lib.hid hA; have HB := Lib.hid hB; have HWA := Lib.hid hwa; have HWB := Lib.hid hwb; have HSA := Lib.hid hsa; clear hA hB hwa hwb hsa
 rcases (opened_cases (wl s) n (by rw [wl_length]; have := HN.out; omega)) with hop | hop
 · (
 have HOP := Lib.hid hop; clear hop
 have q2 : (B.toList != (bl (Crc.four (Crc.sum (wl A)))).toList) = true := by rw [bne, str_eq]; rw [decide_eq_false (open_no HWA.out HWB.out (by rw [wl_length]; have := HN.out; omega) HOP.out)]; rfl
 refine Fact.sq fun K6 hK6 => ?_
 refine rg ?_
 refine fp fun K Z => ?_
 go_simp
 apply Z.out; clear Z K
 refine fp fun K Z => ?_
 go_simp
 apply Z.out; clear Z K
 refine Fact.z hf fun fr1 hf1 hT => ?_
 have hKp := hT 0
 simp (decide := true) only [Fact.G, reduceIte, s0] at hKp
 replace hf := hf1; clear hT hf1 s0
 have s0 := hKp; clear hKp
 refine nx (hK6 _ _ ?_)
 refine Fact.sq fun K7 hK7 => ?_
 refine rg ?_
 have b5 := hf.b 5
 have b6 := hf.b 6
 have b7 := hf.b 7
 refine fp fun K Z => ?_
 go_simp
 apply Z.out; clear Z K
 refine fp fun K Z => ?_
 go_simp
 apply Z.out; clear Z K
 refine fp fun K Z => ?_
 go_simp
 try simp (disch := omega) only [Fact.W]
 rw [show ((s.size : Nat) : Int) - 4 = ((n : Nat) : Int) by have := HN.out; omega]
 try rw [Fact.wrap_i64 (by omega) (by omega)]
 apply Z.out; clear Z K
 refine fp fun K Z => ?_
 go_simp
 apply Z.out; clear Z K
 refine Fact.z hf fun fr1 hf1 hT => ?_
 have hKp : _ ∧ _ := ⟨hT 0, hT 4⟩
 simp (decide := true) only [Fact.G, hf.size, reduceIte, s0] at hKp
 replace hf := hf1; clear hT hf1 s0 b5 b6 b7
 obtain ⟨s0, s4⟩ := hKp
 refine nx (hK7 _ _ ?_)
 refine Fact.sq fun K8 hK8 => ?_
 refine Fact.sq fun K9 hK9 => ?_
 refine Stab.tb 24 fun hok => ?_
 refine Stab.mO 0 s4 hf hok ?_
 apply Stab.tq 1 _ hf hok
 · (
 intro fr1 w1 hh hd hk K Z
 have s8 := Stab.v 0 0 hd hk []
 clear hd
 go_simp
 try rw [q1]
 exact Stab.k Z)
 refine Stab.mN 2 1 0 hf hok [] ?_
 apply Stab.tr 3 _ hf hok
 · (
 intro fr1 w1 hh hd hk K Z
 have s10 := Stab.v 2 0 hd hk []
 refine Stab.g s10 ?_
 have s0 := Stab.O hh s0
 clear hd
 go_simp
 exact Stab.k Z)
 apply Stab.tr 4 _ hf hok
 · (
 intro fr1 w1 hh hd hk K Z
 have s10 := Stab.v 2 1 hd hk []
 refine Stab.g s10 ?_
 have s4 := Stab.O hh s4
 clear hd
 go_simp
 exact Stab.k Z)
 apply Stab.tr 5 _ hf hok
 · (
 intro fr1 w1 hh hd hk K Z
 have s10 := Stab.v 2 2 hd hk []
 refine Stab.g s10 ?_
 have s11 := Stab.v 3 1 hd hk []
 have s12 := Stab.v 4 0 hd hk []
 clear hd
 go_simp
 first | rw [if_pos (by have := HN.out; omega)] | skip
 rw [HB.out]
 try rw [Oper.upon_value]
 exact Stab.k Z)
 apply Stab.tr 6 _ hf hok
 · (
 intro fr1 w1 hh hd hk K Z
 have s10 := Stab.v 2 3 hd hk []
 refine Stab.g s10 ?_
 have s0 := Stab.O hh s0
 clear hd
 go_simp
 exact Stab.k Z)
 apply Stab.tr 7 _ hf hok
 · (
 intro fr1 w1 hh hd hk K Z
 have s10 := Stab.v 2 4 hd hk []
 refine Stab.g s10 ?_
 have s4 := Stab.O hh s4
 clear hd
 go_simp
 exact Stab.k Z)
 apply Stab.tr 8 _ hf hok
 · (
 intro fr1 w1 hh hd hk K Z
 have s10 := Stab.v 2 5 hd hk []
 refine Stab.g s10 ?_
 have s14 := Stab.v 6 1 hd hk []
 have s15 := Stab.v 7 0 hd hk []
 clear hd
 go_simp
 first | rw [if_pos (by have := HN.out; omega)] | skip
 rw [HA.out]
 try rw [Oper.upon_value]
 exact Stab.k Z)
 apply Stab.tr 9 _ hf hok
 · (
 intro fr1 w1 hh hd hk K Z
 have s10 := Stab.v 2 6 hd hk []
 refine Stab.g s10 ?_
 have s16 := Stab.v 8 0 hd hk []
 clear hd
 go_simp
 go_at_call 26; refine (rsum w1 A (by have := HSA.out; have := HN.out; omega)).mono ?_; rintro e w2 ⟨rfl, hwe⟩
 subst w2
 have hs32 := Crc.sum_lt (wl A)
 exact Stab.k Z)
 apply Stab.tr 10 _ hf hok
 · (
 intro fr1 w1 hh hd hk K Z
 have s10 := Stab.v 2 7 hd hk []
 refine Stab.g s10 ?_
 have s17 := Stab.v 9 0 hd hk []
 clear hd
 go_simp
 go_at_call 25; refine (rfour w1 (Crc.sum (wl A)) (Crc.sum_lt _)).mono ?_; rintro e w2 ⟨rfl, hb⟩
 exact Z.out _ rfl _ _ hb rfl)
 apply Stab.tr 11 _ hf hok
 · (
 intro fr1 w1 hh hd hk K Z
 have s10 := Stab.v 2 8 hd hk []
 refine Stab.g s10 ?_
 have s13 := Stab.v 5 5 hd hk []
 have s18 := Stab.v 10 0 hd hk []
 clear hd
 go_simp
 first | rw [q2] | (rw [bne] at q2; rw [q2]) | skip
 exact Stab.k Z)
 apply Stab.tq 12 _ hf hok
 · (
 intro fr1 w1 hh hd hk K Z
 have s10 := Stab.v 2 9 hd hk []
 have s19 := Stab.v 11 0 hd hk []
 clear hd
 go_simp
 exact Stab.k Z)
 refine Stab.tf hf hok fun fr1 w1 hh hg => ?_
 replace s0 := Stab.O hh s0
 replace s4 := Stab.O hh s4
 have s20 := Stab.f 12 0 hg
 have hf1 := hh.fr hf
 have hx := hh.ext
 clear hg hh hf hok
 have hf := hf1; clear hf1
 refine nx (hK9 _ _ ?_)
 refine Fact.cond_t s20 ?_
 refine Fact.sq fun K10 hK10 => ?_
 refine rg ?_
 refine fp fun K Z => ?_
 go_simp
 apply Z.out; clear Z K
 refine fp fun K Z => ?_
 go_simp
 apply Z.out; clear Z K
 refine Fact.z hf fun fr1 hf1 hT => ?_
 have hKp : _ ∧ _ := ⟨hT 2, hT 3⟩
 simp (decide := true) only [Fact.G, hf.size, reduceIte] at hKp
 replace hf := hf1; clear hT hf1 s0 s4 s20
 obtain ⟨s2, s3⟩ := hKp
 refine nx (hK10 _ _ ?_)
 refine wp_ret ?_
 refine Fact.then_ret ?_
 refine Fact.ret2 rfl hf s2 s3 ⟨?_, hx⟩
 rw [HOP.out]
 rfl)
 · (
 have HOP := Lib.hid hop; clear hop
 have q2 : (B.toList != (bl (Crc.four (Crc.sum (wl A)))).toList) = false := by rw [bne, str_eq]; rw [decide_eq_true (open_ok HWA.out HWB.out (by rw [wl_length]; have := HN.out; omega) HOP.out)]; rfl
 refine Fact.sq fun K11 hK11 => ?_
 refine rg ?_
 refine fp fun K Z => ?_
 go_simp
 apply Z.out; clear Z K
 refine fp fun K Z => ?_
 go_simp
 apply Z.out; clear Z K
 refine Fact.z hf fun fr1 hf1 hT => ?_
 have hKp := hT 0
 simp (decide := true) only [Fact.G, reduceIte, s0] at hKp
 replace hf := hf1; clear hT hf1 s0
 have s0 := hKp; clear hKp
 refine nx (hK11 _ _ ?_)
 refine Fact.sq fun K12 hK12 => ?_
 refine rg ?_
 have b5 := hf.b 5
 have b6 := hf.b 6
 have b7 := hf.b 7
 refine fp fun K Z => ?_
 go_simp
 apply Z.out; clear Z K
 refine fp fun K Z => ?_
 go_simp
 apply Z.out; clear Z K
 refine fp fun K Z => ?_
 go_simp
 try simp (disch := omega) only [Fact.W]
 rw [show ((s.size : Nat) : Int) - 4 = ((n : Nat) : Int) by have := HN.out; omega]
 try rw [Fact.wrap_i64 (by omega) (by omega)]
 apply Z.out; clear Z K
 refine fp fun K Z => ?_
 go_simp
 apply Z.out; clear Z K
 refine Fact.z hf fun fr1 hf1 hT => ?_
 have hKp : _ ∧ _ := ⟨hT 0, hT 4⟩
 simp (decide := true) only [Fact.G, hf.size, reduceIte, s0] at hKp
 replace hf := hf1; clear hT hf1 s0 b5 b6 b7
 obtain ⟨s0, s4⟩ := hKp
 refine nx (hK12 _ _ ?_)
 refine Fact.sq fun K13 hK13 => ?_
 refine Fact.sq fun K14 hK14 => ?_
 refine Stab.tb 24 fun hok => ?_
 refine Stab.mO 0 s4 hf hok ?_
 apply Stab.tq 1 _ hf hok
 · (
 intro fr1 w1 hh hd hk K Z
 have s8 := Stab.v 0 0 hd hk []
 clear hd
 go_simp
 try rw [q1]
 exact Stab.k Z)
 refine Stab.mN 2 1 0 hf hok [] ?_
 apply Stab.tr 3 _ hf hok
 · (
 intro fr1 w1 hh hd hk K Z
 have s10 := Stab.v 2 0 hd hk []
 refine Stab.g s10 ?_
 have s0 := Stab.O hh s0
 clear hd
 go_simp
 exact Stab.k Z)
 apply Stab.tr 4 _ hf hok
 · (
 intro fr1 w1 hh hd hk K Z
 have s10 := Stab.v 2 1 hd hk []
 refine Stab.g s10 ?_
 have s4 := Stab.O hh s4
 clear hd
 go_simp
 exact Stab.k Z)
 apply Stab.tr 5 _ hf hok
 · (
 intro fr1 w1 hh hd hk K Z
 have s10 := Stab.v 2 2 hd hk []
 refine Stab.g s10 ?_
 have s11 := Stab.v 3 1 hd hk []
 have s12 := Stab.v 4 0 hd hk []
 clear hd
 go_simp
 first | rw [if_pos (by have := HN.out; omega)] | skip
 rw [HB.out]
 try rw [Oper.upon_value]
 exact Stab.k Z)
 apply Stab.tr 6 _ hf hok
 · (
 intro fr1 w1 hh hd hk K Z
 have s10 := Stab.v 2 3 hd hk []
 refine Stab.g s10 ?_
 have s0 := Stab.O hh s0
 clear hd
 go_simp
 exact Stab.k Z)
 apply Stab.tr 7 _ hf hok
 · (
 intro fr1 w1 hh hd hk K Z
 have s10 := Stab.v 2 4 hd hk []
 refine Stab.g s10 ?_
 have s4 := Stab.O hh s4
 clear hd
 go_simp
 exact Stab.k Z)
 apply Stab.tr 8 _ hf hok
 · (
 intro fr1 w1 hh hd hk K Z
 have s10 := Stab.v 2 5 hd hk []
 refine Stab.g s10 ?_
 have s14 := Stab.v 6 1 hd hk []
 have s15 := Stab.v 7 0 hd hk []
 clear hd
 go_simp
 first | rw [if_pos (by have := HN.out; omega)] | skip
 rw [HA.out]
 try rw [Oper.upon_value]
 exact Stab.k Z)
 apply Stab.tr 9 _ hf hok
 · (
 intro fr1 w1 hh hd hk K Z
 have s10 := Stab.v 2 6 hd hk []
 refine Stab.g s10 ?_
 have s16 := Stab.v 8 0 hd hk []
 clear hd
 go_simp
 go_at_call 26; refine (rsum w1 A (by have := HSA.out; have := HN.out; omega)).mono ?_; rintro e w2 ⟨rfl, hwe⟩
 subst w2
 have hs32 := Crc.sum_lt (wl A)
 exact Stab.k Z)
 apply Stab.tr 10 _ hf hok
 · (
 intro fr1 w1 hh hd hk K Z
 have s10 := Stab.v 2 7 hd hk []
 refine Stab.g s10 ?_
 have s17 := Stab.v 9 0 hd hk []
 clear hd
 go_simp
 go_at_call 25; refine (rfour w1 (Crc.sum (wl A)) (Crc.sum_lt _)).mono ?_; rintro e w2 ⟨rfl, hb⟩
 exact Z.out _ rfl _ _ hb rfl)
 apply Stab.tr 11 _ hf hok
 · (
 intro fr1 w1 hh hd hk K Z
 have s10 := Stab.v 2 8 hd hk []
 refine Stab.g s10 ?_
 have s13 := Stab.v 5 5 hd hk []
 have s18 := Stab.v 10 0 hd hk []
 clear hd
 go_simp
 first | rw [q2] | (rw [bne] at q2; rw [q2]) | skip
 exact Stab.k Z)
 apply Stab.tq 12 _ hf hok
 · (
 intro fr1 w1 hh hd hk K Z
 have s10 := Stab.v 2 9 hd hk []
 have s19 := Stab.v 11 0 hd hk []
 clear hd
 go_simp
 exact Stab.k Z)
 refine Stab.tf hf hok fun fr1 w1 hh hg => ?_
 replace s0 := Stab.O hh s0
 replace s4 := Stab.O hh s4
 have s20 := Stab.f 12 0 hg
 have hf1 := hh.fr hf
 have hx := hh.ext
 clear hg hh hf hok
 have hf := hf1; clear hf1
 refine nx (hK14 _ _ ?_)
 refine Fact.cond_f s20 ?_
 refine wp_skip ?_
 refine nx (hK13 _ _ ?_)
 refine Fact.sq fun K15 hK15 => ?_
 refine rg ?_
 have b21 := hf.b 21
 have b22 := hf.b 22
 have b23 := hf.b 23
 refine fp fun K Z => ?_
 go_simp
 apply Z.out; clear Z K
 refine fp fun K Z => ?_
 go_simp
 apply Z.out; clear Z K
 refine fp fun K Z => ?_
 go_simp
 rw [if_pos (by have := HN.out; omega), HA.out]
 rw [Oper.upon_value]
 apply Z.out; clear Z K
 refine fp fun K Z => ?_
 go_simp
 apply Z.out; clear Z K
 refine fp fun K Z => ?_
 go_simp
 apply Z.out; clear Z K
 refine Fact.z hf fun fr1 hf1 hT => ?_
 have hKp : _ ∧ _ := ⟨hT 2, hT 3⟩
 simp (decide := true) only [Fact.G, hf.size, reduceIte] at hKp
 replace hf := hf1; clear hT hf1 s0 s4 s20 b21 b22 b23
 obtain ⟨s2, s3⟩ := hKp
 refine nx (hK15 _ _ ?_)
 refine wp_ret ?_
 refine Fact.ret2 rfl hf s2 s3 ⟨?_, hx⟩
 rw [HOP.out]
 rw [openR_some, ← HWA.out, bl_wl]))
end Dw
end Go.Proofs.YtdkbgbdgmihlmaaDoor

namespace Go.Proofs.YtdkbgbdgmihlmaaDoor
open Go.RowKit
set_option linter.unusedSimpArgs false
set_option linter.unusedVariables false
set_option linter.unnecessarySimpa false
namespace Dw

/-- how many bytes a number needs, one at least -/
def bytesN (n : Nat) : Nat := if n = 0 then 1 else lenB n
theorem bytesN_lenB {n : Nat} (h0 : 0 < n) (h : n < M64) : bytesN n = lenB n := by unfold bytesN; rw [if_neg (by omega)]
theorem bytesN_of {n x m : Nat} (hn : n < M64) (hm : 1 ≤ m) (hmx : 2 ≤ m → 1 ≤ x) (hx : n / 256 ^ (m - 1) = x) (h : x < 256) : bytesN n = m := by
  unfold bytesN
  split
  · rename_i h0
    subst h0
    rw [Nat.zero_div] at hx
    rcases Nat.lt_or_ge m 2 with h1 | h1
    · omega
    · have := hmx h1; omega
  · rename_i h0
    have hp : 0 < 256 ^ (m - 1) := Nat.pow_pos (by omega)
    refine lenB_uniq hn hm ?_ ?_
    · rcases Nat.lt_or_ge m 2 with h1 | h1
      · rw [show m - 1 = 0 by omega]; simp; omega
      · have h2 := hmx h1
        have h3 := Nat.div_mul_le_self n (256 ^ (m - 1))
        rw [hx] at h3
        exact Nat.le_trans (Nat.le_mul_of_pos_left _ h2) h3
    · have h3 : n < 256 ^ (m - 1) * 256 := Nat.lt_mul_of_div_lt (by rw [hx]; exact h) hp |> fun h9 => by rwa [Nat.mul_comm] at h9
      rw [← Nat.pow_succ, show (m - 1).succ = m by omega] at h3
      exact h3
theorem bytesN_room {n x m : Nat} (hn : n < M64) (hx : n / 256 ^ (m - 1) = x) (h : 256 ≤ x) (hm : m ≤ 8) : m ≤ 7 := by
  rcases Nat.lt_or_ge m 8 with h1 | h1
  · omega
  · exfalso
    have : m = 8 := by omega
    subst this
    unfold M64 at hn
    rw [show (256 : Nat) ^ (8 - 1) = 72057594037927936 by rfl] at hx
    omega
theorem ob_lit (w : World) (c : Nat) : OB (w.alloc (.cells #[.int .u8 (c : Nat)] 5)) w.heap.size (.slice (some ⟨w.heap.size, 0, none⟩) 1 1) [c] := World.ownsRow_lit (size := 1) w #[.int .u8 (c : Nat)] 1 (Nat.le_refl _) (by unfold maxLen; omega) rfl
set_option maxHeartbeats 4000000 in
set_option maxRecDepth 100000 in
theorem rbytes (w : World) (n : Nat) (hn : n < M64) : Calls Tryd.prog 65 #[.int .u64 n] w fun e w1 => e = .returned (.int .i64 (bytesN n : Nat)) ∧ w1 = w := by
 refine calls_of_wp Tryd.func65 rfl ?_
 refine Fact.en 11 fun fr hf hT => ?_
 have s0 := hT 0 _ rfl
 clear hT
 refine Fact.sq fun K1 hK1 => ?_
 refine rg ?_
 refine fp fun K Z => ?_
 go_simp
 apply Z.out; clear Z K
 refine Fact.z hf fun fr1 hf1 hT => ?_
 have hKp := hT 0
 simp (decide := true) only [Fact.G, reduceIte, s0] at hKp
 replace hf := hf1; clear hT hf1 s0
 have s0 := hKp; clear hKp
 refine nx (hK1 _ _ ?_)
 refine Fact.sq fun K2 hK2 => ?_
 refine rg ?_
 refine fp fun K Z => ?_
 go_simp
 apply Z.out; clear Z K
 refine Fact.z hf fun fr1 hf1 hT => ?_
 have hKp : _ ∧ _ := ⟨hT 0, hT 3⟩
 simp (decide := true) only [Fact.G, hf.size, reduceIte, s0] at hKp
 replace hf := hf1; clear hT hf1 s0
 obtain ⟨s0, s3⟩ := hKp
 refine nx (hK2 _ _ ?_)
 refine Fact.sq fun K3 hK3 => ?_
 refine wp_block ?_
 refine wp_loop_ghost (fun gk fr wr => ∃ (x m : Nat), gk = x ∧ Fact.Fr 11 fr ∧ fr.tmps[0]? = some (.int .u64 x) ∧ fr.tmps[3]? = some (.int .i64 m) ∧ 1 ≤ m ∧ m ≤ 8 ∧ (2 ≤ m → 1 ≤ x) ∧ n / 256 ^ (m - 1) = x ∧ w = wr) (n) ?_ ?_
 · (
 exact ⟨n, 1, rfl, hf, s0, s3, by omega, by omega, by omega, by simp, rfl⟩)
 · (
 clear hf s0 s3
 have hn9 := hn; unfold M64 at hn9; rintro gk fr wr ⟨x, m, hk, hf, s0, s3, hm1, hm8, hmx, hx, hw⟩
 subst wr
 have HK := Lib.hid hk; have HX := Lib.hid hx; clear hk hx
 have hx64 : x < 18446744073709551616 := by have := HX.out; have := Nat.div_le_self n (256 ^ (m - 1)); omega
 refine Fact.sq fun K4 hK4 => ?_
 refine Fact.sq fun K5 hK5 => ?_
 refine rg ?_
 have b4 := hf.b 4
 refine fp fun K Z => ?_
 go_simp
 apply Z.out; clear Z K
 refine fp fun K Z => ?_
 go_simp
 apply Z.out; clear Z K
 refine Fact.z hf fun fr1 hf1 hT => ?_
 have hKp : _ ∧ _ ∧ _ := ⟨hT 0, hT 3, hT 5⟩
 simp (decide := true) only [Fact.G, hf.size, reduceIte, s0, s3] at hKp
 replace hf := hf1; clear hT hf1 s0 s3 b4
 obtain ⟨s0, s3, s5⟩ := hKp
 refine nx (hK5 _ _ ?_)
 refine Fact.cond_s s5 (fun hq => ?_) (fun hq => ?_)
 · (
 have hge : 256 ≤ x := by have h9 := of_decide_eq_true hq; omega
 clear hq
 obtain ⟨y, hy⟩ : ∃ y, x / 256 = y := ⟨_, rfl⟩
 have hy64 : y < 18446744073709551616 := by omega
 have hyx : y < x := by omega
 have hm7 : m ≤ 7 := bytesN_room hn HX.out hge hm8
 have HY := Lib.hid hy; clear hy
 refine wp_skip ?_
 refine nx (hK4 _ _ ?_)
 refine wp_block ?_
 refine Fact.sq fun K6 hK6 => ?_
 refine rg ?_
 have b6 := hf.b 6
 have b7 := hf.b 7
 refine fp fun K Z => ?_
 go_simp
 apply Z.out; clear Z K
 refine fp fun K Z => ?_
 go_simp
 rw [show ((x : Nat) : Int) / 256 = ((y : Nat) : Int) by have := HY.out; omega, Fact.wrap_u64 (by omega) (by omega)]
 apply Z.out; clear Z K
 refine fp fun K Z => ?_
 go_simp
 apply Z.out; clear Z K
 refine Fact.z hf fun fr1 hf1 hT => ?_
 have hKp : _ ∧ _ := ⟨hT 0, hT 3⟩
 simp (decide := true) only [Fact.G, hf.size, reduceIte, s3] at hKp
 replace hf := hf1; clear hT hf1 s0 s3 s5 b6 b7
 obtain ⟨s0, s3⟩ := hKp
 refine nx (hK6 _ _ ?_)
 refine rg ?_
 have b8 := hf.b 8
 have b9 := hf.b 9
 refine fp fun K Z => ?_
 go_simp
 apply Z.out; clear Z K
 refine fp fun K Z => ?_
 go_simp
 try simp (disch := omega) only [Fact.W]
 apply Z.out; clear Z K
 refine fp fun K Z => ?_
 go_simp
 apply Z.out; clear Z K
 refine Fact.z hf fun fr1 hf1 hT => ?_
 have hKp : _ ∧ _ := ⟨hT 0, hT 3⟩
 simp (decide := true) only [Fact.G, hf.size, reduceIte, s0] at hKp
 replace hf := hf1; clear hT hf1 s0 s3 b8 b9
 obtain ⟨s0, s3⟩ := hKp
 refine Fact.block_normal ?_
 refine Fact.then_normal ?_
 exact ⟨_, by have := HK.out; omega, y, m + 1, rfl, hf, s0, by rw [s3]; rfl, by omega, by omega, (fun _ => by have := HY.out; omega), by rw [← HY.out, ← HX.out, Nat.div_div_eq_div_mul, show m + 1 - 1 = (m - 1) + 1 by omega, Nat.pow_succ], rfl⟩)
 · (
 have hlt : x < 256 := by have h9 := of_decide_eq_false hq; omega
 have hmn : bytesN n = m := bytesN_of hn hm1 hmx HX.out hlt
 have HMN := Lib.hid hmn; clear hmn hq
 refine wp_exit ?_
 refine Fact.then_exit ?_
 refine Fact.then_exit ?_
 refine Fact.block_exit ?_
 refine nx (hK3 _ _ ?_)
 refine Fact.sq fun K7 hK7 => ?_
 refine rg ?_
 have b10 := hf.b 10
 refine fp fun K Z => ?_
 go_simp
 apply Z.out; clear Z K
 refine fp fun K Z => ?_
 go_simp
 apply Z.out; clear Z K
 refine Fact.z hf fun fr1 hf1 hT => ?_
 have hKp := hT 2
 simp (decide := true) only [Fact.G, hf.size, reduceIte] at hKp
 replace hf := hf1; clear hT hf1 s0 s3 s5 b10
 have s2 := hKp; clear hKp
 refine nx (hK7 _ _ ?_)
 refine wp_ret ?_
 exact Fact.ret1 rfl hf s2 ⟨by rw [HMN.out], rfl⟩))
set_option maxHeartbeats 4000000 in
set_option maxRecDepth 100000 in
theorem rput (w : World) (n : Nat) (hn : n < M64) : Calls Tryd.prog 41 #[.int .u64 n] w fun e w1 => e = .returned (.string (bl (numB n))) ∧ Below w.heap.size w w1 := by
 refine calls_of_wp Tryd.func41 rfl ?_
 refine Fact.en 33 fun fr hf hT => ?_
 have s0 := hT 0 _ rfl
 clear hT
 refine Fact.sq fun K1 hK1 => ?_
 refine rg ?_
 refine fp fun K Z => ?_
 go_simp
 apply Z.out; clear Z K
 refine Fact.z hf fun fr1 hf1 hT => ?_
 have hKp := hT 0
 simp (decide := true) only [Fact.G, reduceIte, s0] at hKp
 replace hf := hf1; clear hT hf1 s0
 have s0 := hKp; clear hKp
 refine nx (hK1 _ _ ?_)
 refine Fact.sq fun K2 hK2 => ?_
 refine Fact.sq fun K3 hK3 => ?_
 refine rg ?_
 have b6 := hf.b 6
 refine fp fun K Z => ?_
 go_simp
 apply Z.out; clear Z K
 refine fp fun K Z => ?_
 go_simp
 apply Z.out; clear Z K
 refine Fact.z hf fun fr1 hf1 hT => ?_
 have hKp : _ ∧ _ := ⟨hT 0, hT 7⟩
 simp (decide := true) only [Fact.G, hf.size, reduceIte, s0] at hKp
 replace hf := hf1; clear hT hf1 s0 b6
 obtain ⟨s0, s7⟩ := hKp
 refine nx (hK3 _ _ ?_)
 refine Fact.cond_s s7 (fun hq => ?_) (fun hq => ?_)
 · (
 have hlt : n < 248 := by have h9 := of_decide_eq_true hq; omega
 clear hq
 refine Fact.sq fun K4 hK4 => ?_
 refine rg ?_
 have b8 := hf.b 8
 have b9 := hf.b 9
 have b10 := hf.b 10
 have b11 := hf.b 11
 refine fp fun K Z => ?_
 go_simp
 apply Z.out; clear Z K
 refine fp fun K Z => ?_
 go_simp
 rw [Fact.wrap_u8 (by omega) (by omega)]
 apply Z.out; clear Z K
 refine fp fun K Z => ?_
 go_simp
 have hcv := conv_lit w [n]
 have hb1 : Below w.heap.size w (w.alloc (.cells #[.int .u8 (n : Nat)] 5)) := (Below.refl _ _).alloc (Nat.le_refl _) _
 simp only [bcs, List.map_cons, List.map_nil, List.length_cons, List.length_nil, Nat.zero_add] at hcv
 obtain ⟨W1, hW1⟩ : ∃ x, w.alloc (.cells #[.int .u8 (n : Nat)] 5) = x := ⟨_, rfl⟩
 rw [hW1] at hcv hb1
 rw [hW1]
 clear hW1
 apply Z.out; clear Z K
 refine fp fun K Z => ?_
 go_simp
 apply Z.out; clear Z K
 refine fp fun K Z => ?_
 go_simp
 apply Z.out; clear Z K
 refine Fact.z hf fun fr1 hf1 hT => ?_
 have hKp := hT 2
 simp (decide := true) only [Fact.G, hf.size, reduceIte] at hKp
 replace hf := hf1; clear hT hf1 s0 s7 b8 b9 b10 b11
 have s2 := hKp; clear hKp
 refine nx (hK4 _ _ ?_)
 refine wp_ret ?_
 refine Fact.then_ret ?_
 exact Fact.ret1 rfl hf s2 ⟨by unfold numB; rw [if_pos hlt], hb1⟩)
 · (
 have hge : 248 ≤ n := by have h9 := of_decide_eq_false hq; omega
 clear hq
 have hn9 := hn; unfold M64 at hn9
 refine wp_skip ?_
 refine nx (hK2 _ _ ?_)
 refine Fact.sq fun K5 hK5 => ?_
 refine rg ?_
 have b12 := hf.b 12
 have b13 := hf.b 13
 refine fp fun K Z => ?_
 go_simp
 apply Z.out; clear Z K
 refine fp fun K Z => ?_
 go_simp
 go_at_call 65; refine (rbytes w n hn).mono ?_; rintro e w1 ⟨rfl, hwe⟩
 subst w1
 rw [bytesN_lenB (by omega) hn]
 obtain ⟨m, hm⟩ : ∃ m, lenB n = m := ⟨_, rfl⟩
 have hmb := lenB_bounds (show 0 < n by omega) hn
 rw [hm] at hmb
 rw [hm]
 have HM := Lib.hid hm; clear hm
 try dsimp only
 apply Z.out; clear Z K
 refine fp fun K Z => ?_
 go_simp
 apply Z.out; clear Z K
 refine Fact.z hf fun fr1 hf1 hT => ?_
 have hKp : _ ∧ _ := ⟨hT 0, hT 3⟩
 simp (decide := true) only [Fact.G, hf.size, reduceIte, s0] at hKp
 replace hf := hf1; clear hT hf1 s0 s7 b12 b13
 obtain ⟨s0, s3⟩ := hKp
 refine nx (hK5 _ _ ?_)
 obtain ⟨c, hc⟩ : ∃ c, 247 + m = c := ⟨_, rfl⟩
 have hc8 : c < 256 := by omega
 have HC := Lib.hid hc; clear hc
 refine Fact.sq fun K6 hK6 => ?_
 refine rg ?_
 have b14 := hf.b 14
 have b15 := hf.b 15
 have b16 := hf.b 16
 have b17 := hf.b 17
 refine fp fun K Z => ?_
 go_simp
 apply Z.out; clear Z K
 refine fp fun K Z => ?_
 go_simp
 try simp (disch := omega) only [Fact.W]
 rw [show (247 : Int) + ((m : Nat) : Int) = ((c : Nat) : Int) by have := HC.out; omega]
 apply Z.out; clear Z K
 refine fp fun K Z => ?_
 go_simp
 rw [Fact.wrap_u8 (by omega) (by omega)]
 apply Z.out; clear Z K
 refine fp fun K Z => ?_
 go_simp
 apply Z.out; clear Z K
 refine fp fun K Z => ?_
 go_simp
 apply Z.out; clear Z K
 refine Fact.z hf fun fr1 hf1 hT => ?_
 have hKp : _ ∧ _ ∧ _ := ⟨hT 0, hT 3, hT 4⟩
 simp (decide := true) only [Fact.G, hf.size, reduceIte, s0, s3] at hKp
 replace hf := hf1; clear hT hf1 s0 s3 b14 b15 b16 b17
 obtain ⟨s0, s3, s4⟩ := hKp
 obtain ⟨W1, hW1⟩ : ∃ x, w.alloc (.cells #[.int .u8 (c : Nat)] 5) = x := ⟨_, rfl⟩
 try rw [hW1]
 have hob : OB W1 w.heap.size (.slice (some ⟨w.heap.size, 0, none⟩) 1 1) [c] := by rw [← hW1]; exact ob_lit w c
 have hb1 : Below w.heap.size w W1 := by rw [← hW1]; exact (Below.refl _ _).alloc (Nat.le_refl _) _
 clear hW1
 refine nx (hK6 _ _ ?_)
 refine Fact.sq fun K7 hK7 => ?_
 refine Fact.sq fun K8 hK8 => ?_
 refine rg ?_
 refine fp fun K Z => ?_
 go_simp
 apply Z.out; clear Z K
 refine Fact.z hf fun fr1 hf1 hT => ?_
 have hKp : _ ∧ _ ∧ _ ∧ _ := ⟨hT 0, hT 3, hT 4, hT 5⟩
 simp (decide := true) only [Fact.G, hf.size, reduceIte, s0, s3, s4] at hKp
 replace hf := hf1; clear hT hf1 s0 s3 s4
 obtain ⟨s0, s3, s4, s5⟩ := hKp
 refine nx (hK8 _ _ ?_)
 refine wp_block ?_
 refine wp_loop_ghost (fun gk fr wr => ∃ (i x : Nat) (V : Value), gk = m - i ∧ i ≤ m ∧ Fact.Fr 33 fr ∧ fr.tmps[0]? = some (.int .u64 x) ∧ fr.tmps[3]? = some (.int .i64 m) ∧ fr.tmps[4]? = some V ∧ fr.tmps[5]? = some (.int .i64 i) ∧ n / 256 ^ i = x ∧ OB wr w.heap.size V (c :: leB i n) ∧ Below w.heap.size w wr) (m) ?_ ?_
 · (
 exact ⟨0, n, _, rfl, Nat.zero_le _, hf, s0, s3, s4, s5, by simp, hob, hb1⟩)
 · (
 clear hf s0 s3 s4 s5
 rintro gk fr wr ⟨i, x, V, hk, hi, hf, s0, s3, s4, s5, hx, hob, hb⟩
 have HK := Lib.hid hk; have HX := Lib.hid hx; clear hk hx
 have hx64 : x < 18446744073709551616 := by have := HX.out; have := Nat.div_le_self n (256 ^ i); omega
 refine Fact.sq fun K9 hK9 => ?_
 refine Fact.sq fun K10 hK10 => ?_
 refine rg ?_
 have b18 := hf.b 18
 have b19 := hf.b 19
 refine fp fun K Z => ?_
 go_simp
 apply Z.out; clear Z K
 refine fp fun K Z => ?_
 go_simp
 apply Z.out; clear Z K
 refine fp fun K Z => ?_
 go_simp
 apply Z.out; clear Z K
 refine Fact.z hf fun fr1 hf1 hT => ?_
 have hKp : _ ∧ _ ∧ _ ∧ _ ∧ _ := ⟨hT 0, hT 3, hT 4, hT 5, hT 20⟩
 simp (decide := true) only [Fact.G, hf.size, reduceIte, s0, s3, s4, s5] at hKp
 replace hf := hf1; clear hT hf1 s0 s3 s4 s5 b18 b19
 obtain ⟨s0, s3, s4, s5, s20⟩ := hKp
 refine nx (hK10 _ _ ?_)
 refine Fact.cond_s s20 (fun hq2 => ?_) (fun hq2 => ?_)
 · (
 have hlt : i < m := by have h9 := of_decide_eq_true hq2; omega
 clear hq2
 obtain ⟨r, hr⟩ : ∃ r, x % 256 = r := ⟨_, rfl⟩
 obtain ⟨h, hh⟩ : ∃ h, x / 256 = h := ⟨_, rfl⟩
 have hr8 : r < 256 := by omega
 have hh64 : h < 18446744073709551616 := by omega
 have hsn := leB_snoc i n
 rw [HX.out, hr] at hsn
 have HR := Lib.hid hr; have HH := Lib.hid hh; have HSN := Lib.hid hsn; clear hr hh hsn
 obtain ⟨A, cc, hv, _⟩ := row_form hob
 subst hv
 obtain ⟨l, hl⟩ : ∃ l, c :: leB i n = l := ⟨_, rfl⟩
 rw [hl] at hob
 have hll : l.length ≤ 9 := by rw [← hl]; simp [leB_length]; omega
 rw [hl] at s4
 have HL := Lib.hid hl; clear hl
 refine wp_skip ?_
 refine nx (hK9 _ _ ?_)
 refine Fact.sq fun K11 hK11 => ?_
 refine wp_block ?_
 refine Fact.sq fun K12 hK12 => ?_
 refine rg ?_
 have b23 := hf.b 23
 have b24 := hf.b 24
 have b25 := hf.b 25
 have b26 := hf.b 26
 have b27 := hf.b 27
 have b28 := hf.b 28
 refine fp fun K Z => ?_
 go_simp
 apply Z.out; clear Z K
 refine fp fun K Z => ?_
 go_simp
 apply Z.out; clear Z K
 refine fp fun K Z => ?_
 go_simp
 rw [show ((x : Nat) : Int).tmod 256 = ((r : Nat) : Int) by rw [Int.tmod_eq_emod_of_nonneg (by omega)]; have := HR.out; omega]
 apply Z.out; clear Z K
 refine fp fun K Z => ?_
 go_simp
 rw [Fact.wrap_u8 (by omega) (by omega)]
 apply Z.out; clear Z K
 refine fp fun K Z => ?_
 go_simp
 apply Z.out; clear Z K
 refine Fact.reL (n := 33) (by simp only [Fact.G, hf.size]) hf.defers (fun fr1 hf1 hT => ?_)
 have hKp : _ ∧ _ ∧ _ ∧ _ ∧ _ ∧ _ := ⟨hT 0, hT 3, hT 4, hT 5, hT 23, hT 27⟩
 simp (decide := true) only [Fact.G, hf.size, reduceIte, s0, s3, s4, s5] at hKp
 replace hf := hf1; clear hT hf1 s0 s3 s4 s5 s20 b23 b24 b25 b26 b27 b28
 obtain ⟨s0, s3, s4, s5, s23, s27⟩ := hKp
 have b28 := hf.b 28
 refine ⟨?_⟩
 refine wpList_plain rfl fun K5 hK5 => ?_
 refine wp_app _ _ 35 rfl 5 _ 1 1 Tryd.underlying35 info_u8 rfl (by decide) (by decide) w.heap.size (.slice A l.length cc) l.length _ (Fact.eval_tmp s23) (World.ownsRow.alloc hob _) wr.heap.size [.int .u8 (r : Nat)] (Fact.eval_tmp s27) rfl (lit_new wr _ _) (by intro u hu; simp at hu; subst hu; rfl) (by omega) (by have := hb.size; simp; omega) (fun v5 w5 hr5 hg5 hat5 => hK5 _ _ ?_)
 refine Fact.L.out ?_
 refine fp fun K Z => ?_
 go_simp
 apply Z.out; clear Z K
 refine Fact.z hf fun fr1 hf1 hT => ?_
 have hKp : _ ∧ _ ∧ _ ∧ _ := ⟨hT 0, hT 3, hT 4, hT 5⟩
 simp (decide := true) only [Fact.G, hf.size, reduceIte, s0, s3, s5] at hKp
 replace hf := hf1; clear hT hf1 s0 s3 s4 s5 s23 s27 b28
 obtain ⟨s0, s3, s4, s5⟩ := hKp
 have hba : But (fun k => (.slice A l.length cc : Value).ownBlock = some k) wr w5 := (But.alloc (S := fun k => (.slice A l.length cc : Value).ownBlock = some k) wr _).trans (But.grown hg5 (fun k hk => hk))
 have hb5 := hb.trans (hba.below hb.size (fun k hk => (World.ownsRow.lt hob k hk).1))
 have hob5 : OB w5 w.heap.size v5 (c :: leB (i + 1) n) := by rw [HSN.out, ← List.cons_append, HL.out]; unfold OB; rw [List.length_append, bcs_append]; exact hr5
 refine nx (hK12 _ _ ?_)
 refine rg ?_
 have b29 := hf.b 29
 have b30 := hf.b 30
 refine fp fun K Z => ?_
 go_simp
 apply Z.out; clear Z K
 refine fp fun K Z => ?_
 go_simp
 rw [show ((x : Nat) : Int) / 256 = ((h : Nat) : Int) by have := HH.out; omega, Fact.wrap_u64 (by omega) (by omega)]
 apply Z.out; clear Z K
 refine fp fun K Z => ?_
 go_simp
 apply Z.out; clear Z K
 refine Fact.z hf fun fr1 hf1 hT => ?_
 have hKp : _ ∧ _ ∧ _ ∧ _ := ⟨hT 0, hT 3, hT 4, hT 5⟩
 simp (decide := true) only [Fact.G, hf.size, reduceIte, s3, s4, s5] at hKp
 replace hf := hf1; clear hT hf1 s0 s3 s4 s5 b29 b30
 obtain ⟨s0, s3, s4, s5⟩ := hKp
 refine Fact.block_normal ?_
 refine nx (hK11 _ _ ?_)
 refine rg ?_
 have b21 := hf.b 21
 have b22 := hf.b 22
 refine fp fun K Z => ?_
 go_simp
 apply Z.out; clear Z K
 refine fp fun K Z => ?_
 go_simp
 try simp (disch := omega) only [Fact.W]
 apply Z.out; clear Z K
 refine fp fun K Z => ?_
 go_simp
 apply Z.out; clear Z K
 refine Fact.z hf fun fr1 hf1 hT => ?_
 have hKp : _ ∧ _ ∧ _ ∧ _ := ⟨hT 0, hT 3, hT 4, hT 5⟩
 simp (decide := true) only [Fact.G, hf.size, reduceIte, s0, s3, s4] at hKp
 replace hf := hf1; clear hT hf1 s0 s3 s4 s5 b21 b22
 obtain ⟨s0, s3, s4, s5⟩ := hKp
 refine Fact.then_normal ?_
 exact ⟨_, by have := HK.out; omega, i + 1, h, v5, rfl, by omega, hf, s0, s3, s4, by rw [s5]; rfl, by rw [← HH.out, ← HX.out, Nat.div_div_eq_div_mul, Nat.pow_succ], hob5, hb5⟩)
 · (
 have hie : i = m := by have h9 := of_decide_eq_false hq2; omega
 have hob2 := hob
 rw [hie] at hob2
 have hcv := OB.conv hob2
 clear hq2 hie
 refine wp_exit ?_
 refine Fact.then_exit ?_
 refine Fact.then_exit ?_
 refine Fact.block_exit ?_
 refine nx (hK7 _ _ ?_)
 refine Fact.sq fun K13 hK13 => ?_
 refine rg ?_
 have b31 := hf.b 31
 have b32 := hf.b 32
 refine fp fun K Z => ?_
 go_simp
 apply Z.out; clear Z K
 refine fp fun K Z => ?_
 go_simp
 apply Z.out; clear Z K
 refine fp fun K Z => ?_
 go_simp
 apply Z.out; clear Z K
 refine Fact.z hf fun fr1 hf1 hT => ?_
 have hKp := hT 2
 simp (decide := true) only [Fact.G, hf.size, reduceIte] at hKp
 replace hf := hf1; clear hT hf1 s0 s3 s4 s5 s20 b31 b32
 have s2 := hKp; clear hKp
 refine nx (hK13 _ _ ?_)
 refine wp_ret ?_
 refine Fact.ret1 rfl hf s2 ⟨?_, hb⟩
 unfold numB
 rw [if_neg (by omega), HM.out, HC.out])))
end Dw
end Go.Proofs.YtdkbgbdgmihlmaaDoor

namespace Go.Proofs.YtdkbgbdgmihlmaaDoor
open Go.RowKit
set_option linter.unusedSimpArgs false
set_option linter.unusedVariables false
set_option linter.unnecessarySimpa false
namespace Dw

theorem rgetN_over {s : List Nat} {i : Nat} (h : s.length ≤ i) : getN s i = (0, i, 3) := by unfold getN; rw [List.getElem?_eq_none h]
theorem rgetN_one {s : List Nat} {i c : Nat} (h : s[i]? = some c) (hc : c < 248) : getN s i = (c, i + 1, 0) := by unfold getN; rw [h]; simp only; rw [if_pos hc]
theorem rgetN_short {s : List Nat} {i c : Nat} (h : s[i]? = some c) (hc : 248 ≤ c) (hl : s.length - i ≤ c - 247) : getN s i = (0, i, 3) := by unfold getN; rw [h]; simp only; rw [if_neg (by omega), if_pos hl]
theorem rgetN_good {s bs : List Nat} {i c m x : Nat} (h : s[i]? = some c) (hc : 248 ≤ c) (hm : c - 247 = m) (hl : i + 1 + m ≤ s.length) (hb : (s.drop (i + 1)).take m = bs) (hx : ofLe bs = x) (hn : (numB x).length = 1 + m) : getN s i = (x, i + 1 + m, 0) := by
  unfold getN; rw [h]; simp only; rw [if_neg (by omega), hm, if_neg (by omega), hb, hx, if_pos hn]
theorem rgetN_form {s bs : List Nat} {i c m x : Nat} (h : s[i]? = some c) (hc : 248 ≤ c) (hm : c - 247 = m) (hl : i + 1 + m ≤ s.length) (hb : (s.drop (i + 1)).take m = bs) (hx : ofLe bs = x) (hn : ¬ (numB x).length = 1 + m) : getN s i = (0, i, 5) := by
  unfold getN; rw [h]; simp only; rw [if_neg (by omega), hm, if_neg (by omega), hb, hx, if_neg hn]
theorem rofLe_64 {l : List Nat} {m : Nat} (h : Small l) (hl : l.length = m) (hm : m ≤ 8) : ofLe l < M64 := by
  have h1 := ofLe_lt l h
  rw [hl] at h1
  exact Nat.lt_of_lt_of_le h1 (Nat.le_trans (Nat.pow_le_pow_right (by omega) hm) (Nat.le_refl (256 ^ 8)))
theorem rslice_at {s bs : List Nat} {i c m : Nat} (h : s[i]? = some c) (hb : (s.drop (i + 1)).take m = bs) : (s.take (i + 1 + m)).drop i = c :: bs := by
  rw [List.drop_take, drop_at h, show i + 1 + m - i = m + 1 by omega, List.take_succ_cons, hb]
theorem rform_ok {E : ByteArray} {bs : List Nat} {c m x : Nat} (he : wl E = c :: bs) (hx : ofLe bs = x) (hs : Small bs) (hl : bs.length = m) (hm : 1 ≤ m) (hc : c - 247 = m) (h248 : 248 ≤ c) (h64 : x < M64) (hn : (numB x).length = 1 + m) : bl (numB x) = E := by
  refine wl_inj ?_
  rw [wl_bl (numB_small h64), he]
  rw [numB_length] at hn
  have h9 : ¬ x < 248 := fun h9 => by rw [if_pos h9] at hn; omega
  rw [if_neg h9] at hn
  have h7 := leB_ofLe bs hs
  rw [hl, hx] at h7
  unfold numB
  rw [if_neg h9, show lenB x = m by omega, h7, show 247 + m = c by omega]
theorem rform_no {E : ByteArray} {bs : List Nat} {c m x : Nat} (he : wl E = c :: bs) (hl : bs.length = m) (h64 : x < M64) (hn : ¬ (numB x).length = 1 + m) : bl (numB x) ≠ E := by
  intro e
  have h1 := congrArg wl e
  rw [wl_bl (numB_small h64), he] at h1
  refine hn ?_
  rw [h1, List.length_cons, hl]
  omega
set_option maxHeartbeats 4000000 in
set_option maxRecDepth 100000 in
theorem rget (w : World) (s : ByteArray) (hsz : s.size ≤ 1000000000) (at_1 : Nat) (hat1 : at_1 ≤ 1000000000) : Calls Tryd.prog 66 #[.string s, .int .i64 at_1] w fun e w1 => e = .returned (.tuple #[.int .u64 (getN (wl s) at_1).1, .int .i64 (getN (wl s) at_1).2.1, .int .i64 (getN (wl s) at_1).2.2]) ∧ Below w.heap.size w w1 := by
 refine calls_of_wp Tryd.func66 rfl ?_
 refine Fact.en 72 fun fr hf hT => ?_
 have s0 := hT 0 _ rfl
 have s1 := hT 1 _ rfl
 clear hT
 have hat2 : ∀ (i : Nat) (h : i < s.size), s[i].toNat = at_ s i := fun i h => (at_get h).symm
 refine Fact.sq fun K1 hK1 => ?_
 refine rg ?_
 refine fp fun K Z => ?_
 go_simp
 apply Z.out; clear Z K
 refine fp fun K Z => ?_
 go_simp
 apply Z.out; clear Z K
 refine fp fun K Z => ?_
 go_simp
 apply Z.out; clear Z K
 refine Fact.z hf fun fr1 hf1 hT => ?_
 have hKp : _ ∧ _ := ⟨hT 0, hT 1⟩
 simp (decide := true) only [Fact.G, reduceIte, s0, s1] at hKp
 replace hf := hf1; clear hT hf1 s0 s1
 obtain ⟨s0, s1⟩ := hKp
 refine nx (hK1 _ _ ?_)
 rcases Nat.lt_or_ge at_1 s.size with hlt | hge
 · (
 have q1 : decide ((at_1 : Int) < 0) = false := decide_eq_false (by omega)
 have q2 : decide (s.size ≤ at_1) = false := decide_eq_false (by omega)
 refine Fact.sq fun K2 hK2 => ?_
 refine Fact.sq fun K3 hK3 => ?_
 refine rg ?_
 have b10 := hf.b 10
 have b11 := hf.b 11
 have b12 := hf.b 12
 have b13 := hf.b 13
 have b14 := hf.b 14
 have b15 := hf.b 15
 have b16 := hf.b 16
 refine fp fun K Z => ?_
 go_simp
 apply Z.out; clear Z K
 refine fp fun K Z => ?_
 go_simp
 try rw [q1]
 apply Z.out; clear Z K
 refine fp fun K Z => ?_
 go_simp
 apply Z.out; clear Z K
 refine og 2 12 false ?_ fun K Z => ?_
 · (
 simp (decide := true) only [Fact.G, reduceIte, hf.size])
 go_simp
 apply Z.out; clear Z K
 refine og 2 12 false ?_ fun K Z => ?_
 · (
 simp (decide := true) only [Fact.G, reduceIte, hf.size])
 go_simp
 apply Z.out; clear Z K
 refine og 2 12 false ?_ fun K Z => ?_
 · (
 simp (decide := true) only [Fact.G, reduceIte, hf.size])
 go_simp
 apply Z.out; clear Z K
 refine og 2 12 false ?_ fun K Z => ?_
 · (
 simp (decide := true) only [Fact.G, reduceIte, hf.size])
 go_simp
 try rw [q2]
 apply Z.out; clear Z K
 refine fp fun K Z => ?_
 go_simp
 apply Z.out; clear Z K
 refine Fact.z hf fun fr1 hf1 hT => ?_
 have hKp : _ ∧ _ ∧ _ := ⟨hT 0, hT 1, hT 17⟩
 simp (decide := true) only [Fact.G, hf.size, reduceIte, s0, s1] at hKp
 replace hf := hf1; clear hT hf1 s0 s1 b10 b11 b12 b13 b14 b15 b16
 obtain ⟨s0, s1, s17⟩ := hKp
 refine nx (hK3 _ _ ?_)
 refine Fact.cond_f s17 ?_
 clear q1 q2
 obtain ⟨c, hc⟩ : ∃ c, at_ s at_1 = c := ⟨_, rfl⟩
 have hc8 : c < 256 := by rw [← hc]; exact at_lt s at_1
 have hg : s[at_1].toNat = c := by rw [← hc]; exact hat2 _ hlt
 have hwc : (wl s)[at_1]? = some c := by rw [← hc]; exact wl_at hlt
 have HC := Lib.hid hc; have HWC := Lib.hid hwc; clear hc hwc
 refine wp_skip ?_
 refine nx (hK2 _ _ ?_)
 refine Fact.sq fun K4 hK4 => ?_
 refine Fact.sq fun K5 hK5 => ?_
 refine rg ?_
 have b19 := hf.b 19
 have b20 := hf.b 20
 have b21 := hf.b 21
 refine fp fun K Z => ?_
 go_simp
 apply Z.out; clear Z K
 refine fp fun K Z => ?_
 go_simp
 apply Z.out; clear Z K
 refine fp fun K Z => ?_
 go_simp
 try rw [if_pos hlt]
 try rw [hg]
 try rw [HC.out]
 apply Z.out; clear Z K
 refine fp fun K Z => ?_
 go_simp
 apply Z.out; clear Z K
 refine Fact.z hf fun fr1 hf1 hT => ?_
 have hKp : _ ∧ _ ∧ _ := ⟨hT 0, hT 1, hT 22⟩
 simp (decide := true) only [Fact.G, hf.size, reduceIte, s0, s1] at hKp
 replace hf := hf1; clear hT hf1 s0 s1 s17 b19 b20 b21
 obtain ⟨s0, s1, s22⟩ := hKp
 refine nx (hK5 _ _ ?_)
 refine Fact.cond_s s22 (fun hq => ?_) (fun hq => ?_)
 · (
 have h248 : c < 248 := by have h9 := of_decide_eq_true hq; omega
 clear hq
 refine Fact.sq fun K6 hK6 => ?_
 refine rg ?_
 have b23 := hf.b 23
 have b24 := hf.b 24
 have b25 := hf.b 25
 have b26 := hf.b 26
 have b27 := hf.b 27
 have b28 := hf.b 28
 refine fp fun K Z => ?_
 go_simp
 apply Z.out; clear Z K
 refine fp fun K Z => ?_
 go_simp
 apply Z.out; clear Z K
 refine fp fun K Z => ?_
 go_simp
 try rw [if_pos hlt]
 try rw [hg]
 try rw [HC.out]
 apply Z.out; clear Z K
 refine fp fun K Z => ?_
 go_simp
 try rw [Fact.wrap_u64 (by omega) (by omega)]
 apply Z.out; clear Z K
 refine fp fun K Z => ?_
 go_simp
 apply Z.out; clear Z K
 refine fp fun K Z => ?_
 go_simp
 try simp (disch := omega) only [Fact.W]
 apply Z.out; clear Z K
 refine fp fun K Z => ?_
 go_simp
 apply Z.out; clear Z K
 refine fp fun K Z => ?_
 go_simp
 apply Z.out; clear Z K
 refine fp fun K Z => ?_
 go_simp
 apply Z.out; clear Z K
 refine Fact.z hf fun fr1 hf1 hT => ?_
 have hKp : _ ∧ _ ∧ _ := ⟨hT 4, hT 5, hT 6⟩
 simp (decide := true) only [Fact.G, hf.size, reduceIte] at hKp
 replace hf := hf1; clear hT hf1 s0 s1 s22 b23 b24 b25 b26 b27 b28
 obtain ⟨s4, s5, s6⟩ := hKp
 refine nx (hK6 _ _ ?_)
 refine wp_ret ?_
 refine Fact.then_ret ?_
 exact Fact.ret3 rfl hf s4 s5 s6 ⟨by rw [rgetN_one HWC.out h248]; rfl, Below.refl _ _⟩)
 · (
 have h248 : 248 ≤ c := by have h9 := of_decide_eq_false hq; omega
 clear hq
 obtain ⟨m, hm⟩ : ∃ m, c - 247 = m := ⟨_, rfl⟩
 have hm1 : 1 ≤ m ∧ m ≤ 8 := by omega
 have HM := Lib.hid hm; clear hm
 refine wp_skip ?_
 refine nx (hK4 _ _ ?_)
 refine Fact.sq fun K7 hK7 => ?_
 refine rg ?_
 have b29 := hf.b 29
 have b30 := hf.b 30
 have b31 := hf.b 31
 have b32 := hf.b 32
 have b33 := hf.b 33
 refine fp fun K Z => ?_
 go_simp
 apply Z.out; clear Z K
 refine fp fun K Z => ?_
 go_simp
 apply Z.out; clear Z K
 refine fp fun K Z => ?_
 go_simp
 try rw [if_pos hlt]
 try rw [hg]
 try rw [HC.out]
 apply Z.out; clear Z K
 refine fp fun K Z => ?_
 go_simp
 try rw [Fact.wrap_i64 (by omega) (by omega)]
 apply Z.out; clear Z K
 refine fp fun K Z => ?_
 go_simp
 try simp (disch := omega) only [Fact.W]
 rw [show ((c : Nat) : Int) - 247 = ((m : Nat) : Int) by have := HM.out; omega]
 apply Z.out; clear Z K
 refine fp fun K Z => ?_
 go_simp
 apply Z.out; clear Z K
 refine Fact.z hf fun fr1 hf1 hT => ?_
 have hKp : _ ∧ _ ∧ _ := ⟨hT 0, hT 1, hT 7⟩
 simp (decide := true) only [Fact.G, hf.size, reduceIte, s0, s1] at hKp
 replace hf := hf1; clear hT hf1 s0 s1 s22 b29 b30 b31 b32 b33
 obtain ⟨s0, s1, s7⟩ := hKp
 refine nx (hK7 _ _ ?_)
 refine Fact.sq fun K8 hK8 => ?_
 refine Fact.sq fun K9 hK9 => ?_
 refine rg ?_
 have b34 := hf.b 34
 have b35 := hf.b 35
 have b36 := hf.b 36
 have b37 := hf.b 37
 have b38 := hf.b 38
 have b39 := hf.b 39
 refine fp fun K Z => ?_
 go_simp
 apply Z.out; clear Z K
 refine fp fun K Z => ?_
 go_simp
 apply Z.out; clear Z K
 refine fp fun K Z => ?_
 go_simp
 apply Z.out; clear Z K
 refine fp fun K Z => ?_
 go_simp
 try simp (disch := omega) only [Fact.W]
 apply Z.out; clear Z K
 refine fp fun K Z => ?_
 go_simp
 try simp (disch := omega) only [Fact.W]
 apply Z.out; clear Z K
 refine fp fun K Z => ?_
 go_simp
 apply Z.out; clear Z K
 refine fp fun K Z => ?_
 go_simp
 apply Z.out; clear Z K
 refine Fact.z hf fun fr1 hf1 hT => ?_
 have hKp : _ ∧ _ ∧ _ ∧ _ := ⟨hT 0, hT 1, hT 7, hT 40⟩
 simp (decide := true) only [Fact.G, hf.size, reduceIte, s0, s1, s7] at hKp
 replace hf := hf1; clear hT hf1 s0 s1 s7 b34 b35 b36 b37 b38 b39
 obtain ⟨s0, s1, s7, s40⟩ := hKp
 refine nx (hK9 _ _ ?_)
 refine Fact.cond_s s40 (fun hq2 => ?_) (fun hq2 => ?_)
 · (
 have hsh : s.size - at_1 ≤ m := by have h9 := of_decide_eq_true hq2; omega
 clear hq2
 refine Fact.sq fun K10 hK10 => ?_
 refine rg ?_
 have b41 := hf.b 41
 refine fp fun K Z => ?_
 go_simp
 apply Z.out; clear Z K
 refine fp fun K Z => ?_
 go_simp
 apply Z.out; clear Z K
 refine fp fun K Z => ?_
 go_simp
 apply Z.out; clear Z K
 refine fp fun K Z => ?_
 go_simp
 apply Z.out; clear Z K
 refine Fact.z hf fun fr1 hf1 hT => ?_
 have hKp : _ ∧ _ ∧ _ := ⟨hT 4, hT 5, hT 6⟩
 simp (decide := true) only [Fact.G, hf.size, reduceIte] at hKp
 replace hf := hf1; clear hT hf1 s0 s1 s7 s40 b41
 obtain ⟨s4, s5, s6⟩ := hKp
 refine nx (hK10 _ _ ?_)
 refine wp_ret ?_
 refine Fact.then_ret ?_
 exact Fact.ret3 rfl hf s4 s5 s6 ⟨by rw [rgetN_short HWC.out h248 (by rw [wl_length]; have := HM.out; omega)]; rfl, Below.refl _ _⟩)
 · (
 have hsh : at_1 + 1 + m ≤ s.size := by have h9 := of_decide_eq_false hq2; omega
 clear hq2
 obtain ⟨bs, hbs⟩ : ∃ x, ((wl s).drop (at_1 + 1)).take m = x := ⟨_, rfl⟩
 have hbl : bs.length = m := by rw [← hbs, List.length_take, List.length_drop, wl_length]; omega
 have hbsm : Small bs := fun x hx => wl_lt s x (by rw [← hbs] at hx; exact List.mem_of_mem_drop (List.mem_of_mem_take hx))
 have hbi : ∀ i, i < m → bs[i]? = some (at_ s (at_1 + 1 + i)) := fun i hi => by rw [← hbs, List.getElem?_take, if_pos hi, List.getElem?_drop]; exact wl_at (by omega)
 have HBS := Lib.hid hbs; have HBL := Lib.hid hbl; have HBI := Lib.hid hbi; clear hbs hbl hbi
 refine wp_skip ?_
 refine nx (hK8 _ _ ?_)
 refine Fact.sq fun K11 hK11 => ?_
 refine rg ?_
 refine fp fun K Z => ?_
 go_simp
 apply Z.out; clear Z K
 refine Fact.z hf fun fr1 hf1 hT => ?_
 have hKp : _ ∧ _ ∧ _ ∧ _ := ⟨hT 0, hT 1, hT 7, hT 8⟩
 simp (decide := true) only [Fact.G, hf.size, reduceIte, s0, s1, s7] at hKp
 replace hf := hf1; clear hT hf1 s0 s1 s7 s40
 obtain ⟨s0, s1, s7, s8⟩ := hKp
 refine nx (hK11 _ _ ?_)
 refine Fact.sq fun K12 hK12 => ?_
 refine Fact.sq fun K13 hK13 => ?_
 refine rg ?_
 have b42 := hf.b 42
 refine fp fun K Z => ?_
 go_simp
 apply Z.out; clear Z K
 refine fp fun K Z => ?_
 go_simp
 apply Z.out; clear Z K
 refine Fact.z hf fun fr1 hf1 hT => ?_
 have hKp : _ ∧ _ ∧ _ ∧ _ ∧ _ := ⟨hT 0, hT 1, hT 7, hT 8, hT 9⟩
 simp (decide := true) only [Fact.G, hf.size, reduceIte, s0, s1, s7, s8] at hKp
 replace hf := hf1; clear hT hf1 s0 s1 s7 s8 b42
 obtain ⟨s0, s1, s7, s8, s9⟩ := hKp
 refine nx (hK13 _ _ ?_)
 refine wp_block ?_
 refine wp_loop_ghost (fun gk fr wr => ∃ (i x : Nat), gk = i ∧ i ≤ m ∧ Fact.Fr 72 fr ∧ fr.tmps[0]? = some (.string s) ∧ fr.tmps[1]? = some (.int .i64 at_1) ∧ fr.tmps[7]? = some (.int .i64 m) ∧ fr.tmps[8]? = some (.int .u64 x) ∧ fr.tmps[9]? = some (.int .i64 i) ∧ ofLe (bs.drop i) = x ∧ w = wr) (m) ?_ ?_
 · (
 exact ⟨m, 0, rfl, Nat.le_refl _, hf, s0, s1, s7, s8, s9, by rw [List.drop_of_length_le (by rw [HBL.out]; exact Nat.le_refl _)]; rfl, rfl⟩)
 · (
 clear hf s0 s1 s7 s8 s9
 rintro gk fr wr ⟨i, x, hk, hi, hf, s0, s1, s7, s8, s9, hx, hw⟩
 subst wr
 have HK := Lib.hid hk; have HX := Lib.hid hx; clear hk hx
 refine Fact.sq fun K14 hK14 => ?_
 refine Fact.sq fun K15 hK15 => ?_
 refine rg ?_
 have b43 := hf.b 43
 refine fp fun K Z => ?_
 go_simp
 apply Z.out; clear Z K
 refine fp fun K Z => ?_
 go_simp
 apply Z.out; clear Z K
 refine Fact.z hf fun fr1 hf1 hT => ?_
 have hKp : _ ∧ _ ∧ _ ∧ _ ∧ _ ∧ _ := ⟨hT 0, hT 1, hT 7, hT 8, hT 9, hT 44⟩
 simp (decide := true) only [Fact.G, hf.size, reduceIte, s0, s1, s7, s8, s9] at hKp
 replace hf := hf1; clear hT hf1 s0 s1 s7 s8 s9 b43
 obtain ⟨s0, s1, s7, s8, s9, s44⟩ := hKp
 refine nx (hK15 _ _ ?_)
 refine Fact.cond_s s44 (fun hq3 => ?_) (fun hq3 => ?_)
 · (
 have hi1 : 0 < i := by have h9 := of_decide_eq_true hq3; omega
 clear hq3
 obtain ⟨j, hj⟩ : ∃ j, i = j + 1 := ⟨i - 1, by omega⟩
 obtain ⟨d, hd⟩ : ∃ d, at_ s (at_1 + 1 + j) = d := ⟨_, rfl⟩
 have hd8 : d < 256 := by rw [← hd]; exact at_lt s _
 have hjm : j < m := by omega
 have hlt2 : at_1 + i < s.size := by omega
 have hg2 := True.intro
 have hbj := HBI.out j hjm
 rw [hd] at hbj
 have hdr : bs.drop j = d :: bs.drop i := by rw [hj]; exact drop_get hbj
 have hnx : ofLe (bs.drop j) = d + 256 * x := by rw [hdr, ofLe, HX.out]
 have hbd : ofLe (bs.drop j) < M64 := rofLe_64 (fun y hy => hbsm y (List.mem_of_mem_drop hy)) rfl (by rw [List.length_drop, HBL.out]; omega)
 rw [hnx] at hbd
 unfold M64 at hbd
 obtain ⟨pq, hpq⟩ : ∃ x, at_1 + i = x := ⟨_, rfl⟩
 rw [hpq] at hlt2
 have hg3 : s[pq].toNat = d := by rw [hat2 _ hlt2, ← hd, show at_1 + 1 + j = pq by omega]
 clear hg2
 have HPQ := Lib.hid hpq; clear hpq
 have HJ := Lib.hid hj; have HD := Lib.hid hd; have HNX := Lib.hid hnx; clear hj hd hnx hdr hbj
 refine wp_skip ?_
 refine nx (hK14 _ _ ?_)
 refine Fact.sq fun K16 hK16 => ?_
 refine wp_block ?_
 refine rg ?_
 have b47 := hf.b 47
 have b48 := hf.b 48
 have b49 := hf.b 49
 have b50 := hf.b 50
 have b51 := hf.b 51
 have b52 := hf.b 52
 have b53 := hf.b 53
 have b54 := hf.b 54
 have b55 := hf.b 55
 refine fp fun K Z => ?_
 go_simp
 apply Z.out; clear Z K
 refine fp fun K Z => ?_
 go_simp
 try simp (disch := omega) only [Fact.W]
 try rw [Fact.wrap_u64 (by omega) (by omega)]
 apply Z.out; clear Z K
 refine fp fun K Z => ?_
 go_simp
 apply Z.out; clear Z K
 refine fp fun K Z => ?_
 go_simp
 apply Z.out; clear Z K
 refine fp fun K Z => ?_
 go_simp
 apply Z.out; clear Z K
 refine fp fun K Z => ?_
 go_simp
 try simp (disch := omega) only [Fact.W]
 rw [show ((at_1 : Nat) : Int) + ((i : Nat) : Int) = ((pq : Nat) : Int) by have := HPQ.out; omega]
 apply Z.out; clear Z K
 refine fp fun K Z => ?_
 go_simp
 try rw [if_pos hlt2]
 try rw [hg3]
 try rw [show at_ s pq = d by rw [← hat2 _ hlt2, hg3]]
 apply Z.out; clear Z K
 refine fp fun K Z => ?_
 go_simp
 try rw [Fact.wrap_u64 (by omega) (by omega)]
 apply Z.out; clear Z K
 refine fp fun K Z => ?_
 go_simp
 try simp (disch := omega) only [Fact.W]
 rw [show ((x : Nat) : Int) * 256 + ((d : Nat) : Int) = ((d + 256 * x : Nat) : Int) by omega]
 try rw [Fact.wrap_u64 (by omega) (by omega)]
 apply Z.out; clear Z K
 refine fp fun K Z => ?_
 go_simp
 apply Z.out; clear Z K
 refine Fact.z hf fun fr1 hf1 hT => ?_
 have hKp : _ ∧ _ ∧ _ ∧ _ ∧ _ := ⟨hT 0, hT 1, hT 7, hT 8, hT 9⟩
 simp (decide := true) only [Fact.G, hf.size, reduceIte, s0, s1, s7, s9] at hKp
 replace hf := hf1; clear hT hf1 s0 s1 s7 s8 s9 s44 b47 b48 b49 b50 b51 b52 b53 b54 b55
 obtain ⟨s0, s1, s7, s8, s9⟩ := hKp
 refine Fact.block_normal ?_
 refine nx (hK16 _ _ ?_)
 refine rg ?_
 have b45 := hf.b 45
 have b46 := hf.b 46
 refine fp fun K Z => ?_
 go_simp
 apply Z.out; clear Z K
 refine fp fun K Z => ?_
 go_simp
 try simp (disch := omega) only [Fact.W]
 rw [show ((i : Nat) : Int) - 1 = ((j : Nat) : Int) by have := HJ.out; omega]
 apply Z.out; clear Z K
 refine fp fun K Z => ?_
 go_simp
 apply Z.out; clear Z K
 refine Fact.z hf fun fr1 hf1 hT => ?_
 have hKp : _ ∧ _ ∧ _ ∧ _ ∧ _ := ⟨hT 0, hT 1, hT 7, hT 8, hT 9⟩
 simp (decide := true) only [Fact.G, hf.size, reduceIte, s0, s1, s7, s8] at hKp
 replace hf := hf1; clear hT hf1 s0 s1 s7 s8 s9 b45 b46
 obtain ⟨s0, s1, s7, s8, s9⟩ := hKp
 refine Fact.then_normal ?_
 exact ⟨_, by have := HK.out; have := HJ.out; omega, j, d + 256 * x, rfl, by omega, hf, s0, s1, s7, s8, s9, HNX.out, rfl⟩)
 · (
 have hi0 : i = 0 := by have h9 := of_decide_eq_false hq3; omega
 have hxe : ofLe bs = x := by have h9 := HX.out; rwa [hi0, List.drop_zero] at h9
 have hx64 : x < M64 := by rw [← hxe]; exact rofLe_64 hbsm HBL.out hm1.2
 have HXE := Lib.hid hxe; clear hxe hq3 hi0
 obtain ⟨E, hE⟩ : ∃ x, s.extract at_1 (at_1 + 1 + m) = x := ⟨_, rfl⟩
 have hwe : wl E = c :: bs := by rw [← hE, wl_extract]; exact rslice_at HWC.out HBS.out
 have HEE := Lib.hid hE; have HWE := Lib.hid hwe; clear hE hwe
 have hx9 := hx64; unfold M64 at hx9
 obtain ⟨en, hen⟩ : ∃ x, at_1 + 1 + m = x := ⟨_, rfl⟩
 have hens : en ≤ s.size := by omega
 have hea : at_1 ≤ en := by omega
 have HEE2 : Hid (s.extract at_1 en = E) := Lib.hid (by rw [← hen]; exact HEE.out)
 have HEN := Lib.hid hen; clear hen
 refine wp_exit ?_
 refine Fact.then_exit ?_
 refine Fact.then_exit ?_
 refine Fact.block_exit ?_
 refine nx (hK12 _ _ ?_)
 by_cases hnb : (numB x).length = 1 + m
 · (
 have HNB := Lib.hid hnb; clear hnb
 have q5 : (!((bl (numB x)).toList == E.toList)) = false := by rw [str_eq, decide_eq_true (rform_ok HWE.out HXE.out hbsm HBL.out hm1.1 HM.out h248 hx64 HNB.out)]; rfl
 refine Fact.sq fun K17 hK17 => ?_
 refine Fact.sq fun K18 hK18 => ?_
 refine Stab.tb 72 fun hok => ?_
 refine Stab.mO 0 s8 hf hok ?_
 apply Stab.tq 1 _ hf hok
 · (
 intro fr1 w1 hh hd hk K Z
 have s56 := Stab.v 0 0 hd hk []
 clear hd
 go_simp
 go_at_call 41; refine (rput w1 x hx64).mono ?_; rintro e w2 ⟨rfl, hb⟩
 exact Z.out _ rfl _ _ hb rfl)
 refine Stab.mO 2 s0 hf hok ?_
 refine Stab.mO 3 s1 hf hok ?_
 refine Stab.mO 4 s1 hf hok ?_
 apply Stab.tq 5 _ hf hok
 · (
 intro fr1 w1 hh hd hk K Z
 have s60 := Stab.v 4 0 hd hk []
 clear hd
 go_simp
 try simp (disch := omega) only [Fact.W]
 exact Stab.k Z)
 refine Stab.mO 6 s7 hf hok ?_
 apply Stab.tq 7 _ hf hok
 · (
 intro fr1 w1 hh hd hk K Z
 have s61 := Stab.v 5 1 hd hk []
 have s62 := Stab.v 6 0 hd hk []
 clear hd
 go_simp
 try simp (disch := omega) only [Fact.W]
 rw [show ((at_1 : Nat) : Int) + 1 + ((m : Nat) : Int) = ((en : Nat) : Int) by have := HEN.out; omega]
 exact Stab.k Z)
 apply Stab.tq 8 _ hf hok
 · (
 intro fr1 w1 hh hd hk K Z
 have s58 := Stab.v 2 5 hd hk []
 have s59 := Stab.v 3 4 hd hk []
 have s63 := Stab.v 7 0 hd hk []
 clear hd
 go_simp
 try rw [if_pos hens, if_pos hea]
 rw [HEE2.out]
 try rw [Oper.upon_value]
 exact Stab.k Z)
 apply Stab.tq 9 _ hf hok
 · (
 intro fr1 w1 hh hd hk K Z
 have s57 := Stab.v 1 7 hd hk []
 have s64 := Stab.v 8 0 hd hk []
 clear hd
 go_simp
 try rw [q5]
 exact Stab.k Z)
 refine Stab.tf hf hok fun fr1 w1 hh hg => ?_
 replace s1 := Stab.O hh s1
 replace s7 := Stab.O hh s7
 replace s8 := Stab.O hh s8
 have s65 := Stab.f 9 0 hg
 have hf1 := hh.fr hf
 have hx := hh.ext
 clear hg hh hf hok s0 s9 s44
 have hf := hf1; clear hf1
 refine nx (hK18 _ _ ?_)
 refine Fact.cond_f s65 ?_
 refine wp_skip ?_
 refine nx (hK17 _ _ ?_)
 refine Fact.sq fun K19 hK19 => ?_
 refine rg ?_
 have b67 := hf.b 67
 have b68 := hf.b 68
 have b69 := hf.b 69
 have b70 := hf.b 70
 have b71 := hf.b 71
 refine fp fun K Z => ?_
 go_simp
 apply Z.out; clear Z K
 refine fp fun K Z => ?_
 go_simp
 apply Z.out; clear Z K
 refine fp fun K Z => ?_
 go_simp
 try simp (disch := omega) only [Fact.W]
 apply Z.out; clear Z K
 refine fp fun K Z => ?_
 go_simp
 apply Z.out; clear Z K
 refine fp fun K Z => ?_
 go_simp
 try simp (disch := omega) only [Fact.W]
 apply Z.out; clear Z K
 refine fp fun K Z => ?_
 go_simp
 apply Z.out; clear Z K
 refine fp fun K Z => ?_
 go_simp
 apply Z.out; clear Z K
 refine fp fun K Z => ?_
 go_simp
 apply Z.out; clear Z K
 refine Fact.z hf fun fr1 hf1 hT => ?_
 have hKp : _ ∧ _ ∧ _ := ⟨hT 4, hT 5, hT 6⟩
 simp (decide := true) only [Fact.G, hf.size, reduceIte] at hKp
 replace hf := hf1; clear hT hf1 s1 s7 s8 s65 b67 b68 b69 b70 b71
 obtain ⟨s4, s5, s6⟩ := hKp
 refine nx (hK19 _ _ ?_)
 refine wp_ret ?_
 exact Fact.ret3 rfl hf s4 s5 s6 ⟨by rw [rgetN_good HWC.out h248 HM.out (by rw [wl_length]; omega) HBS.out HXE.out HNB.out]; rfl, hx⟩)
 · (
 have HNB := Lib.hid hnb; clear hnb
 have q5 : (!((bl (numB x)).toList == E.toList)) = true := by rw [str_eq, decide_eq_false (rform_no HWE.out HBL.out hx64 HNB.out)]; rfl
 refine Fact.sq fun K20 hK20 => ?_
 refine Fact.sq fun K21 hK21 => ?_
 refine Stab.tb 72 fun hok => ?_
 refine Stab.mO 0 s8 hf hok ?_
 apply Stab.tq 1 _ hf hok
 · (
 intro fr1 w1 hh hd hk K Z
 have s56 := Stab.v 0 0 hd hk []
 clear hd
 go_simp
 go_at_call 41; refine (rput w1 x hx64).mono ?_; rintro e w2 ⟨rfl, hb⟩
 exact Z.out _ rfl _ _ hb rfl)
 refine Stab.mO 2 s0 hf hok ?_
 refine Stab.mO 3 s1 hf hok ?_
 refine Stab.mO 4 s1 hf hok ?_
 apply Stab.tq 5 _ hf hok
 · (
 intro fr1 w1 hh hd hk K Z
 have s60 := Stab.v 4 0 hd hk []
 clear hd
 go_simp
 try simp (disch := omega) only [Fact.W]
 exact Stab.k Z)
 refine Stab.mO 6 s7 hf hok ?_
 apply Stab.tq 7 _ hf hok
 · (
 intro fr1 w1 hh hd hk K Z
 have s61 := Stab.v 5 1 hd hk []
 have s62 := Stab.v 6 0 hd hk []
 clear hd
 go_simp
 try simp (disch := omega) only [Fact.W]
 rw [show ((at_1 : Nat) : Int) + 1 + ((m : Nat) : Int) = ((en : Nat) : Int) by have := HEN.out; omega]
 exact Stab.k Z)
 apply Stab.tq 8 _ hf hok
 · (
 intro fr1 w1 hh hd hk K Z
 have s58 := Stab.v 2 5 hd hk []
 have s59 := Stab.v 3 4 hd hk []
 have s63 := Stab.v 7 0 hd hk []
 clear hd
 go_simp
 try rw [if_pos hens, if_pos hea]
 rw [HEE2.out]
 try rw [Oper.upon_value]
 exact Stab.k Z)
 apply Stab.tq 9 _ hf hok
 · (
 intro fr1 w1 hh hd hk K Z
 have s57 := Stab.v 1 7 hd hk []
 have s64 := Stab.v 8 0 hd hk []
 clear hd
 go_simp
 try rw [q5]
 exact Stab.k Z)
 refine Stab.tf hf hok fun fr1 w1 hh hg => ?_
 replace s1 := Stab.O hh s1
 replace s7 := Stab.O hh s7
 replace s8 := Stab.O hh s8
 have s65 := Stab.f 9 0 hg
 have hf1 := hh.fr hf
 have hx := hh.ext
 clear hg hh hf hok s0 s9 s44
 have hf := hf1; clear hf1
 refine nx (hK21 _ _ ?_)
 refine Fact.cond_t s65 ?_
 refine Fact.sq fun K22 hK22 => ?_
 refine rg ?_
 have b66 := hf.b 66
 refine fp fun K Z => ?_
 go_simp
 apply Z.out; clear Z K
 refine fp fun K Z => ?_
 go_simp
 apply Z.out; clear Z K
 refine fp fun K Z => ?_
 go_simp
 apply Z.out; clear Z K
 refine fp fun K Z => ?_
 go_simp
 apply Z.out; clear Z K
 refine Fact.z hf fun fr1 hf1 hT => ?_
 have hKp : _ ∧ _ ∧ _ := ⟨hT 4, hT 5, hT 6⟩
 simp (decide := true) only [Fact.G, hf.size, reduceIte] at hKp
 replace hf := hf1; clear hT hf1 s1 s7 s8 s65 b66
 obtain ⟨s4, s5, s6⟩ := hKp
 refine nx (hK22 _ _ ?_)
 refine wp_ret ?_
 refine Fact.then_ret ?_
 exact Fact.ret3 rfl hf s4 s5 s6 ⟨by rw [rgetN_form HWC.out h248 HM.out (by rw [wl_length]; omega) HBS.out HXE.out HNB.out]; rfl, hx⟩))))))
 · (
 have q1 : decide ((at_1 : Int) < 0) = false := decide_eq_false (by omega)
 have q2 : decide (s.size ≤ at_1) = true := decide_eq_true (by omega)
 refine Fact.sq fun K23 hK23 => ?_
 refine Fact.sq fun K24 hK24 => ?_
 refine rg ?_
 have b10 := hf.b 10
 have b11 := hf.b 11
 have b12 := hf.b 12
 have b13 := hf.b 13
 have b14 := hf.b 14
 have b15 := hf.b 15
 have b16 := hf.b 16
 refine fp fun K Z => ?_
 go_simp
 apply Z.out; clear Z K
 refine fp fun K Z => ?_
 go_simp
 try rw [q1]
 apply Z.out; clear Z K
 refine fp fun K Z => ?_
 go_simp
 apply Z.out; clear Z K
 refine og 2 12 false ?_ fun K Z => ?_
 · (
 simp (decide := true) only [Fact.G, reduceIte, hf.size])
 go_simp
 apply Z.out; clear Z K
 refine og 2 12 false ?_ fun K Z => ?_
 · (
 simp (decide := true) only [Fact.G, reduceIte, hf.size])
 go_simp
 apply Z.out; clear Z K
 refine og 2 12 false ?_ fun K Z => ?_
 · (
 simp (decide := true) only [Fact.G, reduceIte, hf.size])
 go_simp
 apply Z.out; clear Z K
 refine og 2 12 false ?_ fun K Z => ?_
 · (
 simp (decide := true) only [Fact.G, reduceIte, hf.size])
 go_simp
 try rw [q2]
 apply Z.out; clear Z K
 refine fp fun K Z => ?_
 go_simp
 apply Z.out; clear Z K
 refine Fact.z hf fun fr1 hf1 hT => ?_
 have hKp : _ ∧ _ ∧ _ := ⟨hT 0, hT 1, hT 17⟩
 simp (decide := true) only [Fact.G, hf.size, reduceIte, s0, s1] at hKp
 replace hf := hf1; clear hT hf1 s0 s1 b10 b11 b12 b13 b14 b15 b16
 obtain ⟨s0, s1, s17⟩ := hKp
 refine nx (hK24 _ _ ?_)
 refine Fact.cond_t s17 ?_
 refine Fact.sq fun K25 hK25 => ?_
 refine rg ?_
 have b18 := hf.b 18
 refine fp fun K Z => ?_
 go_simp
 apply Z.out; clear Z K
 refine fp fun K Z => ?_
 go_simp
 apply Z.out; clear Z K
 refine fp fun K Z => ?_
 go_simp
 apply Z.out; clear Z K
 refine fp fun K Z => ?_
 go_simp
 apply Z.out; clear Z K
 refine Fact.z hf fun fr1 hf1 hT => ?_
 have hKp : _ ∧ _ ∧ _ := ⟨hT 4, hT 5, hT 6⟩
 simp (decide := true) only [Fact.G, hf.size, reduceIte] at hKp
 replace hf := hf1; clear hT hf1 s0 s1 s17 b18
 obtain ⟨s4, s5, s6⟩ := hKp
 refine nx (hK25 _ _ ?_)
 refine wp_ret ?_
 refine Fact.then_ret ?_
 exact Fact.ret3 rfl hf s4 s5 s6 ⟨by rw [rgetN_over (by rw [wl_length]; omega)]; rfl, Below.refl _ _⟩)
end Dw
end Go.Proofs.YtdkbgbdgmihlmaaDoor
