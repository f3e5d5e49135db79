/- cedillaref15: Get. -/
import Derived.Test.YtdkbgbdgmihlmaaDoorQO
import Derived.Test.YtdkbgbdgmihlmaaDoorTools
namespace Go.Proofs.YtdkbgbdgmihlmaaDoor
open Go.RowKit
set_option linter.unusedSimpArgs false
set_option linter.unusedVariables false
set_option linter.unnecessarySimpa false
namespace Dw

theorem set3b {w : World} {g : Nat} {x y z : Value} {t : TypeId} (h : w.heap[g]? = some (.cells #[x, y, z] t (0, 0))) (y' : Value) : (w.setCell ⟨g, 1, none⟩ y').heap[g]? = some (.cells #[x, y', z] t (0, 0)) :=
  (set_block (i := 1) h y').trans (by simp)
theorem sEnd_long {s : ByteArray} {en init i : Nat} {ss : List State} {st : Except Bad Nat} {b : Bad} (hi : ∀ p, st = .ok p → i = p) (h : i < s.size) (hf : sFail (4, i) st = .error b) : sEnd s en init ss st = .error b := by
  cases st with
  | error a =>
    have h2 : (Except.error a : Except Bad Nat) = .error b := hf
    injection h2 with h2
    subst h2
    rfl
  | ok p =>
    have := hi p rfl
    subst this
    have h2 : (Except.error (4, i) : Except Bad Nat) = .error b := hf
    injection h2 with h2
    simp only [sEnd, if_pos h, h2]
theorem sr_more {C : Nat → Prop} {V NV v5 : Value} {f a b c d : Nat} (hC : ∀ k, C k → f < k ∧ k < a ∧ V.ownBlock ≠ some k) (hN : ∀ k, NV.ownBlock = some k → f < k ∧ k < b) (hnv : ∀ k, NV.ownBlock = some k → V.ownBlock ≠ some k) (hat : v5.ownBlock = V.ownBlock ∨ v5.ownBlock = some c) (hab : a ≤ b) (hbc : b ≤ c) (hbd : b ≤ d) : ∀ k, (C k ∨ NV.ownBlock = some k) → f < k ∧ k < d ∧ v5.ownBlock ≠ some k := by
  rintro k (hk | hk)
  · have h1 := hC k hk
    refine ⟨h1.1, by omega, fun e => ?_⟩
    rcases hat with h | h
    · rw [h] at e; exact h1.2.2 e
    · rw [h] at e; injection e with e; omega
  · have h1 := hN k hk
    refine ⟨h1.1, by omega, fun e => ?_⟩
    rcases hat with h | h
    · rw [h] at e; exact hnv k hk e
    · rw [h] at e; injection e with e; omega
set_option maxHeartbeats 4000000 in
set_option maxRecDepth 100000 in
theorem rget27 (w : World) (s : ByteArray) (hsz : s.size ≤ 900000000) : Calls Tryd.prog 27 #[.string s] w fun e w1 => GotR w w1 e (pGet s) := by
 refine calls_of_wp Tryd.func27 rfl ?_
 refine Fact.en 146 fun fr hf hT => ?_
 have s0 := hT 0 _ rfl
 clear hT
 obtain ⟨bd, is, hop⟩ : ∃ b i, openR (Crc.opened (wl s)) = (b, i) := ⟨_, _, rfl⟩
 have hbl := open_le hop
 have HOP := Lib.hid hop; clear hop
 refine Fact.sq fun K1 hK1 => ?_
 refine rg ?_
 refine fp fun K Z => ?_
 go_simp
 apply Z.out; clear Z K
 refine fp fun K Z => ?_
 go_simp
 apply Z.out; clear Z K
 refine fp fun K Z => ?_
 go_simp
 apply Z.out; clear Z K
 refine Fact.z hf fun fr1 hf1 hT => ?_
 have hKp : _ ∧ _ ∧ _ := ⟨hT 0, hT 3, hT 4⟩
 simp (decide := true) only [Fact.G, hf.size, reduceIte, s0] at hKp
 replace hf := hf1; clear hT hf1 s0
 obtain ⟨s0, s3, s4⟩ := hKp
 obtain ⟨W0, hW0⟩ : ∃ x, (w.alloc (.cells #[.slice none 0 0, .int .u64 0] 25)).alloc (.cells #[.int .i64 0, .int .i64 0] 53) = x := ⟨_, rfl⟩
 try simp only [World.size_alloc] at s3 s4
 try rw [hW0]
 obtain ⟨hb0, hp3, hp4⟩ := two_boxesT hW0
 clear hW0
 refine nx (hK1 _ _ ?_)
 refine Fact.sq fun K2 hK2 => ?_
 refine rg ?_
 have b20 := hf.b 20
 have b21 := hf.b 21
 have b19 := hf.b 19
 have b22 := hf.b 22
 have b23 := hf.b 23
 refine fp fun K Z => ?_
 go_simp
 apply Z.out; clear Z K
 refine fp fun K Z => ?_
 go_simp
 go_at_call 10; refine (ropenL W0 s hsz HOP.out).mono ?_; rintro e w1 ⟨rfl, hb1⟩
 have hq3 := (hb1.block _ (heap_lt hp3)).trans hp3; have hq4 := (hb1.block _ (heap_lt hp4)).trans hp4
 have hb01 := hb0.trans (hb1.mono hb0.size)
 clear hp3 hp4 hb0 hb1
 try dsimp only
 apply Z.out; clear Z K
 refine fp fun K Z => ?_
 go_simp
 apply Z.out; clear Z K
 refine fp fun K Z => ?_
 go_simp
 apply Z.out; clear Z K
 refine fp fun K Z => ?_
 go_simp
 apply Z.out; clear Z K
 refine fp fun K Z => ?_
 go_simp
 apply Z.out; clear Z K
 refine fp fun K Z => ?_
 go_simp
 apply Z.out; clear Z K
 refine Fact.z hf fun fr1 hf1 hT => ?_
 have hKp : _ ∧ _ ∧ _ ∧ _ := ⟨hT 3, hT 4, hT 5, hT 6⟩
 simp (decide := true) only [Fact.G, hf.size, reduceIte, s3, s4] at hKp
 replace hf := hf1; clear hT hf1 s0 s3 s4 b20 b21 b19 b22 b23
 obtain ⟨s3, s4, s5, s6⟩ := hKp
 refine nx (hK2 _ _ ?_)
 rcases is with _ | _
 · (
 rw [pGet_sum HOP.out]
 refine Fact.sq fun K3 hK3 => ?_
 refine Fact.sq fun K4 hK4 => ?_
 refine rg ?_
 have b24 := hf.b 24
 refine fp fun K Z => ?_
 go_simp
 apply Z.out; clear Z K
 refine fp fun K Z => ?_
 go_simp
 apply Z.out; clear Z K
 refine Fact.z hf fun fr1 hf1 hT => ?_
 have hKp : _ ∧ _ ∧ _ ∧ _ := ⟨hT 3, hT 4, hT 5, hT 25⟩
 simp (decide := true) only [Fact.G, hf.size, reduceIte, s3, s4, s5] at hKp
 replace hf := hf1; clear hT hf1 s3 s4 s5 s6 b24
 obtain ⟨s3, s4, s5, s25⟩ := hKp
 refine nx (hK4 _ _ ?_)
 refine Fact.cond_t s25 ?_
 have f30 := frozen_of (i := 0) hq3; have z30 := cell_of_row _ _ 0 _ 25 (0, 0) hq3
 have f31 := frozen_of (i := 1) hq3; have z31 := cell_of_row _ _ 1 _ 25 (0, 0) hq3
 have f40 := frozen_of (i := 0) hq4; have z40 := cell_of_row _ _ 0 _ 53 (0, 0) hq4
 have f41 := frozen_of (i := 1) hq4; have z41 := cell_of_row _ _ 1 _ 53 (0, 0) hq4
 simp at z30 z31 z40 z41
 refine Fact.sq fun K5 hK5 => ?_
 refine rg ?_
 have b26 := hf.b 26
 have b27 := hf.b 27
 refine fp fun K Z => ?_
 go_simp
 apply Z.out; clear Z K
 refine fp fun K Z => ?_
 go_simp
 apply Z.out; clear Z K
 refine fp fun K Z => ?_
 go_simp
 apply Z.out; clear Z K
 refine fp fun K Z => ?_
 go_simp
 apply Z.out; clear Z K
 refine fp fun K Z => ?_
 go_simp
 apply Z.out; clear Z K
 refine Fact.z hf fun fr1 hf1 hT => ?_
 have hKp : _ ∧ _ ∧ _ := ⟨hT 2, hT 3, hT 4⟩
 simp (decide := true) only [Fact.G, hf.size, reduceIte, s3, s4] at hKp
 replace hf := hf1; clear hT hf1 s3 s4 s5 s25 b26 b27
 obtain ⟨s2, s3, s4⟩ := hKp
 refine nx (hK5 _ _ ?_)
 refine wp_ret ?_
 refine Fact.then_ret ?_
 obtain ⟨Wa, hWa⟩ : ∃ x, (w1.setCell ⟨w.heap.size, 0, none⟩ (.slice none 0 0)).setCell ⟨w.heap.size, 1, none⟩ (.int .u64 0) = x := ⟨_, rfl⟩
 obtain ⟨hba, hpa⟩ := fill2 hq3 hWa
 try rw [hWa]
 clear hWa
 obtain ⟨Wb, hWb⟩ : ∃ x, (Wa.setCell ⟨w.heap.size + 1, 0, none⟩ (.int .i64 16)).setCell ⟨w.heap.size + 1, 1, none⟩ (.int .i64 0) = x := ⟨_, rfl⟩
 obtain ⟨hbb, hpb⟩ := fill2 (hba.heap hq4 (by omega)) hWb
 try rw [hWb]
 clear hWb
 have hpa2 := hbb.heap hpa (by omega)
 exact ret_tcc rfl hf s2 s3 s4 hpa2 hpb Tryd.underlying25 rfl Tryd.underlying53 rfl (by kernel_rfl) (by kernel_rfl) ⟨rfl, by simp, hb01.trans ((hba.below (B := w.heap.size) hb01.size (fun k h => by omega)).trans (hbb.below (B := w.heap.size) (Nat.le_trans hb01.size hba.size) (fun k h => by omega)))⟩)
 · (
 rw [pGet_bodyO HOP.out]
 have hbd : bd.size ≤ 1000000000 := by omega
 refine Fact.sq fun K6 hK6 => ?_
 refine Fact.sq fun K7 hK7 => ?_
 refine rg ?_
 have b24 := hf.b 24
 refine fp fun K Z => ?_
 go_simp
 apply Z.out; clear Z K
 refine fp fun K Z => ?_
 go_simp
 apply Z.out; clear Z K
 refine Fact.z hf fun fr1 hf1 hT => ?_
 have hKp : _ ∧ _ ∧ _ ∧ _ := ⟨hT 3, hT 4, hT 5, hT 25⟩
 simp (decide := true) only [Fact.G, hf.size, reduceIte, s3, s4, s5] at hKp
 replace hf := hf1; clear hT hf1 s3 s4 s5 s6 b24
 obtain ⟨s3, s4, s5, s25⟩ := hKp
 refine nx (hK7 _ _ ?_)
 refine Fact.cond_f s25 ?_
 refine wp_skip ?_
 refine nx (hK6 _ _ ?_)
 refine Fact.sq fun K8 hK8 => ?_
 refine rg ?_
 have b28 := hf.b 28
 have b29 := hf.b 29
 have b30 := hf.b 30
 refine fp fun K Z => ?_
 go_simp
 apply Z.out; clear Z K
 refine fp fun K Z => ?_
 go_simp
 apply Z.out; clear Z K
 refine fp fun K Z => ?_
 go_simp
 apply Z.out; clear Z K
 refine fp fun K Z => ?_
 go_simp
 apply Z.out; clear Z K
 refine Fact.z hf fun fr1 hf1 hT => ?_
 have hKp : _ ∧ _ ∧ _ ∧ _ := ⟨hT 3, hT 4, hT 5, hT 7⟩
 simp (decide := true) only [Fact.G, hf.size, reduceIte, s3, s4, s5] at hKp
 replace hf := hf1; clear hT hf1 s3 s4 s5 s25 b28 b29 b30
 obtain ⟨s3, s4, s5, s7⟩ := hKp
 obtain ⟨g, hg⟩ : ∃ x, w1.heap.size = x := ⟨_, rfl⟩
 obtain ⟨W4, hW4⟩ : ∃ x, w1.alloc (.cells #[.string bd, .int .i64 0, .int .i64 0, .int .i64 0] 101) = x := ⟨_, rfl⟩
 try rw [hW4]
 obtain ⟨hb4, -, -, -, -, hpg, -⟩ := box4 hW4
 clear hW4
 have hg1 : w.heap.size + 1 < g := by have := heap_lt hq4; omega
 have hr3 := (hb4.block _ (heap_lt hq3)).trans hq3; have hr4 := (hb4.block _ (heap_lt hq4)).trans hq4
 rw [hg] at hpg
 try rw [hg] at s7
 have hin4 : IN W4 g bd (.ok 0) := ⟨hpg, Nat.zero_le _⟩
 have hb04 := hb01.trans (hb4.mono hb01.size)
 clear hb4 hb01 hq3 hq4 hpg hg
 refine nx (hK8 _ _ ?_)
 refine Fact.sq fun K9 hK9 => ?_
 refine Fact.sq fun K10 hK10 => ?_
 refine rg ?_
 refine fp fun K Z => ?_
 go_simp
 apply Z.out; clear Z K
 refine Fact.z hf fun fr1 hf1 hT => ?_
 have hKp : _ ∧ _ ∧ _ ∧ _ ∧ _ := ⟨hT 3, hT 4, hT 5, hT 7, hT 8⟩
 simp (decide := true) only [Fact.G, hf.size, reduceIte, s3, s4, s5, s7] at hKp
 replace hf := hf1; clear hT hf1 s3 s4 s5 s7
 obtain ⟨s3, s4, s5, s7, s8⟩ := hKp
 refine nx (hK10 _ _ ?_)
 refine wp_block ?_
 refine wp_loop_ghost (fun gk fr wr => ∃ (k : Nat) (st : Except Bad Nat), gk = 3 - k ∧ k ≤ 3 ∧ Fact.Fr 146 fr ∧ fr.tmps[3]? = some (.pointer (some ⟨w.heap.size, 0, none⟩)) ∧ fr.tmps[4]? = some (.pointer (some ⟨w.heap.size + 1, 0, none⟩)) ∧ fr.tmps[5]? = some (.string bd) ∧ fr.tmps[7]? = some (.pointer (some ⟨g, 0, none⟩)) ∧ fr.tmps[8]? = some (.int .i64 k) ∧ sMag bd 3 0 (.ok 0) = sMag bd (3 - k) k st ∧ IN wr g bd st ∧ But (fun k => k = g) W4 wr) (3) ?_ ?_
 · (
 exact ⟨0, _, rfl, Nat.zero_le _, hf, s3, s4, s5, s7, s8, rfl, hin4, But.refl _ _⟩)
 · (
 clear hf s3 s4 s5 s7 s8
 rintro gk fr wr ⟨k, st, hk, hki, hf, s3, s4, s5, s7, s8, hma, hin, hbt⟩
 have HK := Lib.hid hk; have HMA := Lib.hid hma; clear hk hma
 refine Fact.sq fun K11 hK11 => ?_
 refine Fact.sq fun K12 hK12 => ?_
 refine rg ?_
 have b31 := hf.b 31
 refine fp fun K Z => ?_
 go_simp
 apply Z.out; clear Z K
 refine fp fun K Z => ?_
 go_simp
 apply Z.out; clear Z K
 refine Fact.z hf fun fr1 hf1 hT => ?_
 have hKp : _ ∧ _ ∧ _ ∧ _ ∧ _ ∧ _ := ⟨hT 3, hT 4, hT 5, hT 7, hT 8, hT 32⟩
 simp (decide := true) only [Fact.G, hf.size, reduceIte, s3, s4, s5, s7, s8] at hKp
 replace hf := hf1; clear hT hf1 s3 s4 s5 s7 s8 b31
 obtain ⟨s3, s4, s5, s7, s8, s32⟩ := hKp
 refine nx (hK12 _ _ ?_)
 refine Fact.cond_s s32 (fun hq => ?_) (fun hq => ?_)
 · (
 have hklt : k < 3 := by have h9 := of_decide_eq_true hq; omega
 clear hq
 obtain ⟨st1, c, hc⟩ : ∃ a b, sChar bd st = (a, b) := ⟨_, _, rfl⟩
 have HC := Lib.hid hc; clear hc
 have hnx := sMag_next (k := k) (m := 3 - (k + 1)) HC.out
 have HNX := Lib.hid hnx; clear hnx
 obtain ⟨m, hm⟩ : ∃ x, magicAt k = x := ⟨_, rfl⟩
 have hat : ∀ h : k < (ByteArray.mk #[67, 83, 1]).size, ((ByteArray.mk #[67, 83, 1])[k]'h).toNat = m := fun h => by rw [← hm, ← magic_at hklt, at_get h]
 have HM := Lib.hid hm; clear hm
 refine wp_skip ?_
 refine nx (hK11 _ _ ?_)
 refine Fact.sq fun K13 hK13 => ?_
 refine wp_block ?_
 refine Fact.sq fun K14 hK14 => ?_
 refine rg ?_
 have b35 := hf.b 35
 have b36 := hf.b 36
 refine fp fun K Z => ?_
 go_simp
 apply Z.out; clear Z K
 refine fp fun K Z => ?_
 go_simp
 go_at_call 44; refine (rcharL wr g bd st st1 c hin hbd HC.out).mono ?_; rintro e w8 ⟨rfl, hin8, hb8⟩
 have hbt8 := hbt.trans hb8
 try dsimp only
 apply Z.out; clear Z K
 refine fp fun K Z => ?_
 go_simp
 apply Z.out; clear Z K
 refine Fact.z hf fun fr1 hf1 hT => ?_
 have hKp : _ ∧ _ ∧ _ ∧ _ ∧ _ ∧ _ := ⟨hT 3, hT 4, hT 5, hT 7, hT 8, hT 9⟩
 simp (decide := true) only [Fact.G, hf.size, reduceIte, s3, s4, s5, s7, s8] at hKp
 replace hf := hf1; clear hT hf1 s3 s4 s5 s7 s8 s32 b35 b36
 obtain ⟨s3, s4, s5, s7, s8, s9⟩ := hKp
 refine nx (hK14 _ _ ?_)
 refine Fact.sq fun K15 hK15 => ?_
 refine rg ?_
 have b37 := hf.b 37
 have b38 := hf.b 38
 have b39 := hf.b 39
 refine fp fun K Z => ?_
 go_simp
 apply Z.out; clear Z K
 refine fp fun K Z => ?_
 go_simp
 apply Z.out; clear Z K
 refine fp fun K Z => ?_
 go_simp
 rw [if_pos (by omega)]
 apply Z.out; clear Z K
 refine fp fun K Z => ?_
 go_simp
 apply Z.out; clear Z K
 refine Fact.z hf fun fr1 hf1 hT => ?_
 have hKp : _ ∧ _ ∧ _ ∧ _ ∧ _ ∧ _ := ⟨hT 3, hT 4, hT 5, hT 7, hT 8, hT 40⟩
 simp (decide := true) only [Fact.G, hf.size, reduceIte, s3, s4, s5, s7, s8] at hKp
 replace hf := hf1; clear hT hf1 s3 s4 s5 s7 s8 s9 b37 b38 b39
 obtain ⟨s3, s4, s5, s7, s8, s40⟩ := hKp
 refine nx (hK15 _ _ ?_)
 refine Fact.cond_s s40 (fun hq => ?_) (fun hq => ?_)
 · (
 have hne : c ≠ magicAt k := by rw [HM.out]; intro e; subst e; simp at hq
 have HNE := Lib.hid hne; clear hne hq
 have hst : (if c = magicAt k then st1 else sFail (6, k) st1) = sFail (6, k) st1 := if_neg HNE.out
 have HST := Lib.hid hst; clear hst
 refine rg ?_
 have b41 := hf.b 41
 have b42 := hf.b 42
 refine fp fun K Z => ?_
 go_simp
 apply Z.out; clear Z K
 refine fp fun K Z => ?_
 go_simp
 apply Z.out; clear Z K
 refine fp fun K Z => ?_
 go_simp
 go_at_call 45; refine (rfail9 w8 g bd st1 hin8 6 k (by simp)).mono ?_; rintro e w9 ⟨rfl, hin9, hb9⟩
 have hbt9 := hbt8.trans hb9
 try dsimp only
 apply Z.out; clear Z K
 refine Fact.z hf fun fr1 hf1 hT => ?_
 have hKp : _ ∧ _ ∧ _ ∧ _ ∧ _ := ⟨hT 3, hT 4, hT 5, hT 7, hT 8⟩
 simp (decide := true) only [Fact.G, reduceIte, s3, s4, s5, s7, s8] at hKp
 replace hf := hf1; clear hT hf1 s3 s4 s5 s7 s8 s40 b41 b42
 obtain ⟨s3, s4, s5, s7, s8⟩ := hKp
 refine Fact.block_normal ?_
 refine nx (hK13 _ _ ?_)
 refine rg ?_
 have b33 := hf.b 33
 have b34 := hf.b 34
 refine fp fun K Z => ?_
 go_simp
 apply Z.out; clear Z K
 refine fp fun K Z => ?_
 go_simp
 try simp (disch := omega) only [Fact.W]
 apply Z.out; clear Z K
 refine fp fun K Z => ?_
 go_simp
 apply Z.out; clear Z K
 refine Fact.z hf fun fr1 hf1 hT => ?_
 have hKp : _ ∧ _ ∧ _ ∧ _ ∧ _ := ⟨hT 3, hT 4, hT 5, hT 7, hT 8⟩
 simp (decide := true) only [Fact.G, hf.size, reduceIte, s3, s4, s5, s7] at hKp
 replace hf := hf1; clear hT hf1 s3 s4 s5 s7 s8 b33 b34
 obtain ⟨s3, s4, s5, s7, s8⟩ := hKp
 refine Fact.then_normal ?_
 exact ⟨_, by have := HK.out; omega, k + 1, _, rfl, by omega, hf, s3, s4, s5, s7, by rw [s8]; rfl, by rw [HMA.out, show 3 - k = 3 - (k + 1) + 1 by omega, HNX.out, HST.out], hin9, hbt9⟩)
 · (
 have hst : (if c = magicAt k then st1 else sFail (6, k) st1) = st1 := if_pos (by rw [HM.out]; have := (by simpa using hq : (c : Int) = m); omega)
 have HST := Lib.hid hst; clear hst hq
 have hin9 := hin8; have hbt9 := hbt8
 refine wp_skip ?_
 refine Fact.block_normal ?_
 refine nx (hK13 _ _ ?_)
 refine rg ?_
 have b33 := hf.b 33
 have b34 := hf.b 34
 refine fp fun K Z => ?_
 go_simp
 apply Z.out; clear Z K
 refine fp fun K Z => ?_
 go_simp
 try simp (disch := omega) only [Fact.W]
 apply Z.out; clear Z K
 refine fp fun K Z => ?_
 go_simp
 apply Z.out; clear Z K
 refine Fact.z hf fun fr1 hf1 hT => ?_
 have hKp : _ ∧ _ ∧ _ ∧ _ ∧ _ := ⟨hT 3, hT 4, hT 5, hT 7, hT 8⟩
 simp (decide := true) only [Fact.G, hf.size, reduceIte, s3, s4, s5, s7] at hKp
 replace hf := hf1; clear hT hf1 s3 s4 s5 s7 s8 s40 b33 b34
 obtain ⟨s3, s4, s5, s7, s8⟩ := hKp
 refine Fact.then_normal ?_
 exact ⟨_, by have := HK.out; omega, k + 1, _, rfl, by omega, hf, s3, s4, s5, s7, by rw [s8]; rfl, by rw [HMA.out, show 3 - k = 3 - (k + 1) + 1 by omega, HNX.out, HST.out], hin9, hbt9⟩))
 · (
 have hke : k = 3 := by have h9 := of_decide_eq_false hq; omega
 subst hke
 have hM0 : sMag bd 3 0 (.ok 0) = st := HMA.out
 have HM0 := Lib.hid hM0; clear hM0 hq
 obtain ⟨st1, en, hn⟩ : ∃ a b, sNum bd 0 100000 st = (a, b) := ⟨_, _, rfl⟩
 have hle12 := sNum_le bd 0 100000 st
 rw [hn] at hle12
 have HN12 := Lib.hid hn; clear hn
 replace hle12 : en ≤ 100000 := hle12.1
 obtain ⟨st2, n, hn⟩ : ∃ a b, sNum bd 1 18446744073709551615 st1 = (a, b) := ⟨_, _, rfl⟩
 have hle13 := sNum_le bd 1 18446744073709551615 st1
 rw [hn] at hle13
 have HN13 := Lib.hid hn; clear hn
 replace hle13 : n ≤ 18446744073709551615 := hle13.1
 refine wp_exit ?_
 refine Fact.then_exit ?_
 refine Fact.then_exit ?_
 refine Fact.block_exit ?_
 refine nx (hK9 _ _ ?_)
 refine Fact.sq fun K16 hK16 => ?_
 refine rg ?_
 refine fp fun K Z => ?_
 go_simp
 apply Z.out; clear Z K
 refine Fact.z hf fun fr1 hf1 hT => ?_
 have hKp : _ ∧ _ ∧ _ ∧ _ ∧ _ := ⟨hT 3, hT 4, hT 5, hT 7, hT 10⟩
 simp (decide := true) only [Fact.G, hf.size, reduceIte, s3, s4, s5, s7] at hKp
 replace hf := hf1; clear hT hf1 s3 s4 s5 s7 s8 s32
 obtain ⟨s3, s4, s5, s7, s10⟩ := hKp
 refine nx (hK16 _ _ ?_)
 refine Fact.sq fun K17 hK17 => ?_
 refine rg ?_
 have b44 := hf.b 44
 have b45 := hf.b 45
 have b46 := hf.b 46
 refine fp fun K Z => ?_
 go_simp
 apply Z.out; clear Z K
 refine fp fun K Z => ?_
 go_simp
 go_at_call 46; refine (rnumL wr g bd st st1 en hin hbd 0 100000 HN12.out).mono ?_; rintro e w12 ⟨rfl, hin12, hb12⟩
 have hbt12 := hbt.trans hb12
 try dsimp only
 apply Z.out; clear Z K
 refine fp fun K Z => ?_
 go_simp
 try rw [Fact.wrap_i64 (by omega) (by omega)]
 apply Z.out; clear Z K
 refine fp fun K Z => ?_
 go_simp
 apply Z.out; clear Z K
 refine Fact.z hf fun fr1 hf1 hT => ?_
 have hKp : _ ∧ _ ∧ _ ∧ _ ∧ _ ∧ _ := ⟨hT 3, hT 4, hT 5, hT 7, hT 10, hT 11⟩
 simp (decide := true) only [Fact.G, hf.size, reduceIte, s3, s4, s5, s7, s10] at hKp
 replace hf := hf1; clear hT hf1 s3 s4 s5 s7 s10 b44 b45 b46
 obtain ⟨s3, s4, s5, s7, s10, s11⟩ := hKp
 refine nx (hK17 _ _ ?_)
 refine Fact.sq fun K18 hK18 => ?_
 refine rg ?_
 have b47 := hf.b 47
 have b48 := hf.b 48
 have b49 := hf.b 49
 refine fp fun K Z => ?_
 go_simp
 apply Z.out; clear Z K
 refine fp fun K Z => ?_
 go_simp
 apply Z.out; clear Z K
 refine fp fun K Z => ?_
 go_simp
 go_at_call 46; refine (rnumL w12 g bd st1 st2 n hin12 hbd 1 18446744073709551615 HN13.out).mono ?_; rintro e w13 ⟨rfl, hin13, hb13⟩
 have hbt13 := hbt12.trans hb13
 clear hbt12 hb13 hb12 hbt
 try dsimp only
 apply Z.out; clear Z K
 refine fp fun K Z => ?_
 go_simp
 apply Z.out; clear Z K
 refine Fact.z hf fun fr1 hf1 hT => ?_
 have hKp : _ ∧ _ ∧ _ ∧ _ ∧ _ ∧ _ ∧ _ := ⟨hT 3, hT 4, hT 5, hT 7, hT 10, hT 11, hT 12⟩
 simp (decide := true) only [Fact.G, hf.size, reduceIte, s3, s4, s5, s7, s10, s11] at hKp
 replace hf := hf1; clear hT hf1 s3 s4 s5 s7 s10 s11 b47 b48 b49
 obtain ⟨s3, s4, s5, s7, s10, s11, s12⟩ := hKp
 refine nx (hK18 _ _ ?_)
 refine Fact.sq fun K19 hK19 => ?_
 refine rg ?_
 refine fp fun K Z => ?_
 go_simp
 apply Z.out; clear Z K
 refine Fact.z hf fun fr1 hf1 hT => ?_
 have hKp : _ ∧ _ ∧ _ ∧ _ ∧ _ ∧ _ ∧ _ ∧ _ := ⟨hT 3, hT 4, hT 5, hT 7, hT 10, hT 11, hT 12, hT 13⟩
 simp (decide := true) only [Fact.G, hf.size, reduceIte, s3, s4, s5, s7, s10, s11, s12] at hKp
 replace hf := hf1; clear hT hf1 s3 s4 s5 s7 s10 s11 s12
 obtain ⟨s3, s4, s5, s7, s10, s11, s12, s13⟩ := hKp
 obtain ⟨f, hfz⟩ : ∃ x, w13.heap.size = x := ⟨_, rfl⟩
 obtain ⟨W14, hW14⟩ : ∃ x, w13.alloc (.cells #[.slice none 0 0, .int .u64 0] 25) = x := ⟨_, rfl⟩
 try rw [hW14]
 obtain ⟨hb14, -, -, hpf, -⟩ := box2 hW14
 clear hW14
 have hgf : g < f := by have := hin13.lt; omega
 have hin14 := hin13.later hb14
 rw [hfz] at hpf
 try rw [hfz] at s13
 have hbt14 := hbt13.trans (But.of (fun k => k = g) hb14)
 have ht3 := hbt14.heap hr3 (by omega); have ht4 := hbt14.heap hr4 (by omega)
 have hb014 := hb04.trans (hbt14.below (B := w.heap.size) hb04.size (fun k h => by omega))
 clear hb14 hbt13 hbt14 hin13 hr3 hr4 hb04
 refine nx (hK19 _ _ ?_)
 refine Fact.seq_meet (fun fr wq => ∃ (st : Except Bad Nat) (V : Value) (l : List (Value × State)) (C : Nat → Prop), Fact.Fr 146 fr ∧ fr.tmps[3]? = some (.pointer (some ⟨w.heap.size, 0, none⟩)) ∧ fr.tmps[4]? = some (.pointer (some ⟨w.heap.size + 1, 0, none⟩)) ∧ fr.tmps[5]? = some (.string bd) ∧ fr.tmps[7]? = some (.pointer (some ⟨g, 0, none⟩)) ∧ fr.tmps[10]? = some (.int .u64 18446744073709551615) ∧ fr.tmps[11]? = some (.int .i64 en) ∧ fr.tmps[13]? = some (.pointer (some ⟨f, 0, none⟩)) ∧ sStates bd n 0 st2 [] = (st, l.map Prod.snd) ∧ wq.heap[f]? = some (.cells #[V, .int .u64 0] 25 (0, 0)) ∧ IN wq g bd st ∧ SR wq f C V l ∧ (∀ k, V.ownBlock = some k → f < k) ∧ (∀ k, C k → f < k ∧ k < wq.heap.size ∧ V.ownBlock ≠ some k) ∧ But (fun k => k = g ∨ f ≤ k) W14 wq) ?_ ?_
 · (
 refine Fact.sq fun K20 hK20 => ?_
 refine rg ?_
 refine fp fun K Z => ?_
 go_simp
 apply Z.out; clear Z K
 refine Fact.z hf fun fr1 hf1 hT => ?_
 have hKp : _ ∧ _ ∧ _ ∧ _ ∧ _ ∧ _ ∧ _ ∧ _ ∧ _ := ⟨hT 3, hT 4, hT 5, hT 7, hT 10, hT 11, hT 12, hT 13, hT 14⟩
 simp (decide := true) only [Fact.G, hf.size, reduceIte, s3, s4, s5, s7, s10, s11, s12, s13] at hKp
 replace hf := hf1; clear hT hf1 s3 s4 s5 s7 s10 s11 s12 s13
 obtain ⟨s3, s4, s5, s7, s10, s11, s12, s13, s14⟩ := hKp
 refine nx (hK20 _ _ ?_)
 refine wp_block ?_
 refine wp_loop_ghost (fun gk fr wr => ∃ (i : Nat) (st : Except Bad Nat) (V : Value) (l : List (Value × State)) (C : Nat → Prop), gk = n - i ∧ i ≤ n ∧ Fact.Fr 146 fr ∧ fr.tmps[3]? = some (.pointer (some ⟨w.heap.size, 0, none⟩)) ∧ fr.tmps[4]? = some (.pointer (some ⟨w.heap.size + 1, 0, none⟩)) ∧ fr.tmps[5]? = some (.string bd) ∧ fr.tmps[7]? = some (.pointer (some ⟨g, 0, none⟩)) ∧ fr.tmps[10]? = some (.int .u64 18446744073709551615) ∧ fr.tmps[11]? = some (.int .i64 en) ∧ fr.tmps[13]? = some (.pointer (some ⟨f, 0, none⟩)) ∧ fr.tmps[12]? = some (.int .u64 n) ∧ fr.tmps[14]? = some (.int .u64 i) ∧ sStates bd n 0 st2 [] = sStates bd (n - i) i st (l.map Prod.snd) ∧ (∀ p, st = .ok p → i ≤ p) ∧ l.length = i ∧ wr.heap[f]? = some (.cells #[V, .int .u64 0] 25 (0, 0)) ∧ IN wr g bd st ∧ SR wr f C V l ∧ (∀ k, V.ownBlock = some k → f < k) ∧ (∀ k, C k → f < k ∧ k < wr.heap.size ∧ V.ownBlock ≠ some k) ∧ But (fun k => k = g ∨ f ≤ k) W14 wr) (n) ?_ ?_
 · (
 exact ⟨0, st2, _, [], fun _ => False, rfl, Nat.zero_le _, hf, s3, s4, s5, s7, s10, s11, s13, s12, s14, rfl, (fun p hp => Nat.zero_le _), rfl, hpf, hin14, SR.nil_ _ _ _, (fun k h => by cases h), (fun k h => h.elim), But.refl _ _⟩)
 · (
 clear hf s3 s4 s5 s7 s10 s11 s12 s13 s14
 rintro gk fr wr ⟨i, st, V, l, C, hk, hki, hf, s3, s4, s5, s7, s10, s11, s13, s12, s14, hpa, hip, hli, hpg, hin, hsr, hvb, hC, hbt⟩
 have HK := Lib.hid hk; have HPA := Lib.hid hpa; have HIP := Lib.hid hip; have HL := Lib.hid hli; have HVB := Lib.hid hvb; have HC := Lib.hid hC; clear hk hpa hip hli hvb hC
 rcases Nat.lt_or_ge i n with hlt | hge
 · (
 rcases st with b | p
 · (
 have c2 := hin.code.1
 simp only [codeOf] at c2
 have hb0 := hin.err
 have q1 : decide (i < n) = true := decide_eq_true hlt
 have q2 : ((b.1 : Int) == 0) = false := beq_eq_false_iff_ne.2 (by omega)
 refine Fact.sq fun K21 hK21 => ?_
 refine Fact.sq fun K22 hK22 => ?_
 refine rg ?_
 have b50 := hf.b 50
 have b51 := hf.b 51
 have b52 := hf.b 52
 have b53 := hf.b 53
 have b54 := hf.b 54
 have b55 := hf.b 55
 have b56 := hf.b 56
 have b57 := hf.b 57
 have b58 := hf.b 58
 have b59 := hf.b 59
 refine fp fun K Z => ?_
 go_simp
 apply Z.out; clear Z K
 refine fp fun K Z => ?_
 go_simp
 apply Z.out; clear Z K
 refine fp fun K Z => ?_
 go_simp
 apply Z.out; clear Z K
 refine fp fun K Z => ?_
 go_simp
 apply Z.out; clear Z K
 refine og 3 53 true ?_ fun K Z => ?_
 · (
 simp (decide := true) only [Fact.G, reduceIte, hf.size, q1, q2])
 go_simp
 apply Z.out; clear Z K
 refine og 3 53 true ?_ fun K Z => ?_
 · (
 simp (decide := true) only [Fact.G, reduceIte, hf.size, q1, q2])
 go_simp
 apply Z.out; clear Z K
 refine og 3 53 true ?_ fun K Z => ?_
 · (
 simp (decide := true) only [Fact.G, reduceIte, hf.size, q1, q2])
 go_simp
 apply Z.out; clear Z K
 refine og 3 53 true ?_ fun K Z => ?_
 · (
 simp (decide := true) only [Fact.G, reduceIte, hf.size, q1, q2])
 go_simp
 apply Z.out; clear Z K
 refine og 3 53 true ?_ fun K Z => ?_
 · (
 simp (decide := true) only [Fact.G, reduceIte, hf.size, q1, q2])
 go_simp
 apply Z.out; clear Z K
 refine og 3 53 true ?_ fun K Z => ?_
 · (
 simp (decide := true) only [Fact.G, reduceIte, hf.size, q1, q2])
 go_simp
 try rw [q2]
 apply Z.out; clear Z K
 refine fp fun K Z => ?_
 go_simp
 apply Z.out; clear Z K
 refine Fact.z hf fun fr1 hf1 hT => ?_
 have hKp : _ ∧ _ ∧ _ ∧ _ ∧ _ ∧ _ ∧ _ ∧ _ ∧ _ ∧ _ := ⟨hT 3, hT 4, hT 5, hT 7, hT 10, hT 11, hT 12, hT 13, hT 14, hT 60⟩
 simp (decide := true) only [Fact.G, hf.size, reduceIte, s3, s4, s5, s7, s10, s11, s12, s13, s14] at hKp
 replace hf := hf1; clear hT hf1 s3 s4 s5 s7 s10 s11 s12 s13 s14 b50 b51 b52 b53 b54 b55 b56 b57 b58 b59
 obtain ⟨s3, s4, s5, s7, s10, s11, s12, s13, s14, s60⟩ := hKp
 refine nx (hK22 _ _ ?_)
 refine Fact.cond_f s60 ?_
 clear q1 q2 c2
 have hpb : sStates bd n 0 st2 [] = (.error b, l.map Prod.snd) := by rw [HPA.out, sStates_e]
 have HPB := Lib.hid hpb; clear hpb
 refine wp_exit ?_
 refine Fact.then_exit ?_
 refine Fact.then_exit ?_
 refine Fact.block_exit ?_
 refine Fact.then_normal ?_
 exact ⟨_, V, l, C, hf, s3, s4, s5, s7, s10, s11, s13, HPB.out, hpg, hin, hsr, HVB.out, HC.out, hbt⟩)
 · (
 have c2 := hin.code.1
 simp only [codeOf] at c2
 have q1 : decide (i < n) = true := decide_eq_true hlt
 have hip := HIP.out p rfl
 have hps : p ≤ bd.size := hin.2
 refine Fact.sq fun K23 hK23 => ?_
 refine Fact.sq fun K24 hK24 => ?_
 refine rg ?_
 have b50 := hf.b 50
 have b51 := hf.b 51
 have b52 := hf.b 52
 have b53 := hf.b 53
 have b54 := hf.b 54
 have b55 := hf.b 55
 have b56 := hf.b 56
 have b57 := hf.b 57
 have b58 := hf.b 58
 have b59 := hf.b 59
 refine fp fun K Z => ?_
 go_simp
 apply Z.out; clear Z K
 refine fp fun K Z => ?_
 go_simp
 apply Z.out; clear Z K
 refine fp fun K Z => ?_
 go_simp
 apply Z.out; clear Z K
 refine fp fun K Z => ?_
 go_simp
 apply Z.out; clear Z K
 refine og 3 53 true ?_ fun K Z => ?_
 · (
 simp (decide := true) only [Fact.G, reduceIte, hf.size, q1])
 go_simp
 apply Z.out; clear Z K
 refine og 3 53 true ?_ fun K Z => ?_
 · (
 simp (decide := true) only [Fact.G, reduceIte, hf.size, q1])
 go_simp
 apply Z.out; clear Z K
 refine og 3 53 true ?_ fun K Z => ?_
 · (
 simp (decide := true) only [Fact.G, reduceIte, hf.size, q1])
 go_simp
 apply Z.out; clear Z K
 refine og 3 53 true ?_ fun K Z => ?_
 · (
 simp (decide := true) only [Fact.G, reduceIte, hf.size, q1])
 go_simp
 apply Z.out; clear Z K
 refine og 3 53 true ?_ fun K Z => ?_
 · (
 simp (decide := true) only [Fact.G, reduceIte, hf.size, q1])
 go_simp
 apply Z.out; clear Z K
 refine og 3 53 true ?_ fun K Z => ?_
 · (
 simp (decide := true) only [Fact.G, reduceIte, hf.size, q1])
 go_simp
 apply Z.out; clear Z K
 refine fp fun K Z => ?_
 go_simp
 apply Z.out; clear Z K
 refine Fact.z hf fun fr1 hf1 hT => ?_
 have hKp : _ ∧ _ ∧ _ ∧ _ ∧ _ ∧ _ ∧ _ ∧ _ ∧ _ ∧ _ := ⟨hT 3, hT 4, hT 5, hT 7, hT 10, hT 11, hT 12, hT 13, hT 14, hT 60⟩
 simp (decide := true) only [Fact.G, hf.size, reduceIte, s3, s4, s5, s7, s10, s11, s12, s13, s14] at hKp
 replace hf := hf1; clear hT hf1 s3 s4 s5 s7 s10 s11 s12 s13 s14 b50 b51 b52 b53 b54 b55 b56 b57 b58 b59
 obtain ⟨s3, s4, s5, s7, s10, s11, s12, s13, s14, s60⟩ := hKp
 refine nx (hK24 _ _ ?_)
 refine Fact.cond_t s60 ?_
 clear q1 c2
 obtain ⟨s3_, h, hn⟩ : ∃ a b, sNum bd 0 513 (.ok p) = (a, b) := ⟨_, _, rfl⟩
 have hle18 := sNum_le bd 0 513 (.ok p)
 rw [hn] at hle18
 have HN18 := Lib.hid hn; clear hn
 replace hle18 : h ≤ 513 := hle18.1
 refine wp_skip ?_
 refine nx (hK23 _ _ ?_)
 refine Fact.sq fun K25 hK25 => ?_
 refine wp_block ?_
 refine Fact.sq fun K26 hK26 => ?_
 refine rg ?_
 have b63 := hf.b 63
 have b64 := hf.b 64
 refine fp fun K Z => ?_
 go_simp
 apply Z.out; clear Z K
 refine fp fun K Z => ?_
 go_simp
 go_at_call 46; refine (rnumL wr g bd (.ok p) s3_ h hin hbd 0 513 HN18.out).mono ?_; rintro e w18 ⟨rfl, hin18, hb18⟩
 try dsimp only
 apply Z.out; clear Z K
 refine fp fun K Z => ?_
 go_simp
 apply Z.out; clear Z K
 refine Fact.z hf fun fr1 hf1 hT => ?_
 have hKp : _ ∧ _ ∧ _ ∧ _ ∧ _ ∧ _ ∧ _ ∧ _ ∧ _ ∧ _ := ⟨hT 3, hT 4, hT 5, hT 7, hT 10, hT 11, hT 12, hT 13, hT 14, hT 15⟩
 simp (decide := true) only [Fact.G, hf.size, reduceIte, s3, s4, s5, s7, s10, s11, s12, s13, s14] at hKp
 replace hf := hf1; clear hT hf1 s3 s4 s5 s7 s10 s11 s12 s13 s14 s60 b63 b64
 obtain ⟨s3, s4, s5, s7, s10, s11, s12, s13, s14, s15⟩ := hKp
 have hpf18 := hb18.heap hpg (by omega)
 have hsr18 := hsr.but hb18 (fun k hk e => by have := HVB.out k hk; omega) (fun k hk e => by have := (HC.out k hk).1; omega)
 have hbt18 : But (fun k => k = g ∨ f ≤ k) W14 w18 := hbt.trans (hb18.mono (fun k _ h => .inl h))
 have hzz := hb18.size
 have HC18 := Lib.hid (show ∀ k, C k → f < k ∧ k < w18.heap.size ∧ V.ownBlock ≠ some k from fun k hk => ⟨(HC.out k hk).1, Nat.lt_of_lt_of_le (HC.out k hk).2.1 hzz, (HC.out k hk).2.2⟩)
 clear hzz hb18 hpg hsr hbt hin
 refine nx (hK26 _ _ ?_)
 refine Fact.sq fun K27 hK27 => ?_
 refine rg ?_
 have b65 := hf.b 65
 have b66 := hf.b 66
 have b67 := hf.b 67
 have b68 := hf.b 68
 have b16 := hf.b 16
 refine fp fun K Z => ?_
 go_simp
 apply Z.out; clear Z K
 refine fp fun K Z => ?_
 go_simp
 apply Z.out; clear Z K
 refine fp fun K Z => ?_
 go_simp
 try rw [tmod_dec]
 apply Z.out; clear Z K
 refine fp fun K Z => ?_
 go_simp
 apply Z.out; clear Z K
 refine fp fun K Z => ?_
 go_simp
 apply Z.out; clear Z K
 refine fp fun K Z => ?_
 go_simp
 apply Z.out; clear Z K
 refine Fact.z hf fun fr1 hf1 hT => ?_
 have hKp : _ ∧ _ ∧ _ ∧ _ ∧ _ ∧ _ ∧ _ ∧ _ ∧ _ ∧ _ ∧ _ := ⟨hT 3, hT 4, hT 5, hT 7, hT 10, hT 11, hT 12, hT 13, hT 14, hT 15, hT 16⟩
 simp (decide := true) only [Fact.G, hf.size, reduceIte, s3, s4, s5, s7, s10, s11, s12, s13, s14, s15] at hKp
 replace hf := hf1; clear hT hf1 s3 s4 s5 s7 s10 s11 s12 s13 s14 s15 b65 b66 b67 b68 b16
 obtain ⟨s3, s4, s5, s7, s10, s11, s12, s13, s14, s15, s16⟩ := hKp
 obtain ⟨gs, hgs⟩ : ∃ x, w18.heap.size = x := ⟨_, rfl⟩
 obtain ⟨W19, hW19⟩ : ∃ x, w18.alloc (.cells #[.slice none 0 0, .bool (decide (h % 2 = 1)), .int .u64 0] 64) = x := ⟨_, rfl⟩
 try rw [hW19]
 obtain ⟨hb19, y0, y1, y2, hp19, -⟩ := box3 hW19
 clear hW19
 have hfgs : f < gs := by rw [← hgs]; exact heap_lt hpf18
 have hin19 := hin18.later hb19
 rw [hgs] at y0 y1 y2 hp19
 try rw [hgs] at s16
 have hbt19 : But (fun k => k = g ∨ gs ≤ k) w18 W19 := But.of _ hb19
 refine nx (hK27 _ _ ?_)
 refine Fact.seq_meet (fun fr wq => ∃ (of : Nat) (s4_ : Except Bad Nat), Fact.Fr 146 fr ∧ fr.tmps[3]? = some (.pointer (some ⟨w.heap.size, 0, none⟩)) ∧ fr.tmps[4]? = some (.pointer (some ⟨w.heap.size + 1, 0, none⟩)) ∧ fr.tmps[5]? = some (.string bd) ∧ fr.tmps[7]? = some (.pointer (some ⟨g, 0, none⟩)) ∧ fr.tmps[10]? = some (.int .u64 18446744073709551615) ∧ fr.tmps[11]? = some (.int .i64 en) ∧ fr.tmps[13]? = some (.pointer (some ⟨f, 0, none⟩)) ∧ fr.tmps[12]? = some (.int .u64 n) ∧ fr.tmps[14]? = some (.int .u64 i) ∧ fr.tmps[15]? = some (.int .u64 h) ∧ fr.tmps[16]? = some (.pointer (some ⟨gs, 0, none⟩)) ∧ sOut bd h s3_ = (s4_, of) ∧ IN wq g bd s4_ ∧ wq.heap[gs]? = some (.cells #[.slice none 0 0, .bool (decide (h % 2 = 1)), .int .u64 of] 64 (0, 0)) ∧ But (fun k => k = g ∨ gs ≤ k) w18 wq) ?_ ?_
 · (
 refine Fact.sq fun K28 hK28 => ?_
 refine rg ?_
 have b69 := hf.b 69
 refine fp fun K Z => ?_
 go_simp
 apply Z.out; clear Z K
 refine fp fun K Z => ?_
 go_simp
 apply Z.out; clear Z K
 refine Fact.z hf fun fr1 hf1 hT => ?_
 have hKp : _ ∧ _ ∧ _ ∧ _ ∧ _ ∧ _ ∧ _ ∧ _ ∧ _ ∧ _ ∧ _ ∧ _ := ⟨hT 3, hT 4, hT 5, hT 7, hT 10, hT 11, hT 12, hT 13, hT 14, hT 15, hT 16, hT 70⟩
 simp (decide := true) only [Fact.G, hf.size, reduceIte, s3, s4, s5, s7, s10, s11, s12, s13, s14, s15, s16] at hKp
 replace hf := hf1; clear hT hf1 s3 s4 s5 s7 s10 s11 s12 s13 s14 s15 s16 b69
 obtain ⟨s3, s4, s5, s7, s10, s11, s12, s13, s14, s15, s16, s70⟩ := hKp
 refine nx (hK28 _ _ ?_)
 refine Fact.cond_s s70 (fun hq => ?_) (fun hq => ?_)
 · (
 have hod := of_decide_eq_true hq
 have HOD := Lib.hid hod; clear hod hq
 obtain ⟨s4_, of, hn⟩ : ∃ a b, sNum bd 0 18446744073709551615 s3_ = (a, b) := ⟨_, _, rfl⟩
 have hle21 := sNum_le bd 0 18446744073709551615 s3_
 rw [hn] at hle21
 have HN21 := Lib.hid hn; clear hn
 replace hle21 : of ≤ 18446744073709551615 := hle21.1
 have hso : sOut bd h s3_ = (s4_, of) := by unfold sOut; rw [if_pos HOD.out]; exact HN21.out
 have HSO := Lib.hid hso; clear hso
 refine rg ?_
 have b71 := hf.b 71
 have b72 := hf.b 72
 have b73 := hf.b 73
 have b74 := hf.b 74
 refine fp fun K Z => ?_
 go_simp
 apply Z.out; clear Z K
 refine fp fun K Z => ?_
 go_simp
 apply Z.out; clear Z K
 refine fp fun K Z => ?_
 go_simp
 go_at_call 46; refine (rnumL W19 g bd s3_ s4_ of hin19 hbd 0 18446744073709551615 HN21.out).mono ?_; rintro e w21 ⟨rfl, hin21, hb21⟩
 have hp21 := hb21.heap hp19 (by omega)
 have fz2 := frozen_of (i := 2) hp21
 have y22 := cell_of_row _ _ 2 _ 64 (0, 0) hp21
 simp at y22
 clear y0 y1 y2
 try dsimp only
 apply Z.out; clear Z K
 refine fp fun K Z => ?_
 go_simp
 apply Z.out; clear Z K
 refine fp fun K Z => ?_
 go_simp
 apply Z.out; clear Z K
 refine Fact.z hf fun fr1 hf1 hT => ?_
 have hKp : _ ∧ _ ∧ _ ∧ _ ∧ _ ∧ _ ∧ _ ∧ _ ∧ _ ∧ _ ∧ _ := ⟨hT 3, hT 4, hT 5, hT 7, hT 10, hT 11, hT 12, hT 13, hT 14, hT 15, hT 16⟩
 simp (decide := true) only [Fact.G, reduceIte, s3, s4, s5, s7, s10, s11, s12, s13, s14, s15, s16] at hKp
 replace hf := hf1; clear hT hf1 s3 s4 s5 s7 s10 s11 s12 s13 s14 s15 s16 s70 b71 b72 b73 b74
 obtain ⟨s3, s4, s5, s7, s10, s11, s12, s13, s14, s15, s16⟩ := hKp
 refine Fact.then_normal ?_
 exact ⟨of, s4_, hf, s3, s4, s5, s7, s10, s11, s13, s12, s14, s15, s16, HSO.out, hin21.but (But.setCell (S := fun k => k = gs) rfl _) (by omega), set3c hp21 (.int .u64 of), (hbt19.trans (hb21.mono (fun k _ h => .inl h))).trans (But.setCell (.inr (Nat.le_refl _)) _)⟩)
 · (
 have hso : sOut bd h s3_ = (s3_, 0) := by unfold sOut; rw [if_neg (of_decide_eq_false hq)]
 have HSO := Lib.hid hso; clear hso hq
 refine wp_skip ?_
 refine Fact.then_normal ?_
 exact ⟨0, s3_, hf, s3, s4, s5, s7, s10, s11, s13, s12, s14, s15, s16, HSO.out, hin19, hp19, hbt19⟩))
 · (
 clear hf s3 s4 s5 s7 s10 s11 s12 s13 s14 s15 s16
 rintro fr wq ⟨of, s4_, hf, s3, s4, s5, s7, s10, s11, s13, s12, s14, s15, s16, hso, hinq, hpq, hbtq⟩
 have HSO := Lib.hid hso; clear hso hin19 hp19 hbt19 hb19 y0 y1 y2
 obtain ⟨hh, hhh⟩ : ∃ x, h / 2 = x := ⟨_, rfl⟩
 have hh9 : hh ≤ 256 := by omega
 have HH := Lib.hid hhh; clear hhh
 refine Fact.seq_meet (fun fr w2 => ∃ (s5_ : Except Bad Nat) (la : List Arc) (V2 : Value), Fact.Fr 146 fr ∧ fr.tmps[3]? = some (.pointer (some ⟨w.heap.size, 0, none⟩)) ∧ fr.tmps[4]? = some (.pointer (some ⟨w.heap.size + 1, 0, none⟩)) ∧ fr.tmps[5]? = some (.string bd) ∧ fr.tmps[7]? = some (.pointer (some ⟨g, 0, none⟩)) ∧ fr.tmps[10]? = some (.int .u64 18446744073709551615) ∧ fr.tmps[11]? = some (.int .i64 en) ∧ fr.tmps[13]? = some (.pointer (some ⟨f, 0, none⟩)) ∧ fr.tmps[12]? = some (.int .u64 n) ∧ fr.tmps[14]? = some (.int .u64 i) ∧ fr.tmps[15]? = some (.int .u64 h) ∧ fr.tmps[16]? = some (.pointer (some ⟨gs, 0, none⟩)) ∧ sArcs bd i hh s4_ [] = (s5_, la) ∧ la.length ≤ 256 ∧ IN w2 g bd s5_ ∧ OA w2 gs V2 la ∧ (∀ k, V2.ownBlock = some k → gs < k) ∧ w2.heap[gs]? = some (.cells #[V2, .bool (decide (h % 2 = 1)), .int .u64 of] 64 (0, 0)) ∧ But (fun k => k = g ∨ gs ≤ k) w18 w2) ?_ ?_
 · (
 refine Fact.sq fun K29 hK29 => ?_
 refine rg ?_
 refine fp fun K Z => ?_
 go_simp
 apply Z.out; clear Z K
 refine Fact.z hf fun fr1 hf1 hT => ?_
 have hKp : _ ∧ _ ∧ _ ∧ _ ∧ _ ∧ _ ∧ _ ∧ _ ∧ _ ∧ _ ∧ _ ∧ _ := ⟨hT 3, hT 4, hT 5, hT 7, hT 10, hT 11, hT 12, hT 13, hT 14, hT 15, hT 16, hT 17⟩
 simp (decide := true) only [Fact.G, hf.size, reduceIte, s3, s4, s5, s7, s10, s11, s12, s13, s14, s15, s16] at hKp
 replace hf := hf1; clear hT hf1 s3 s4 s5 s7 s10 s11 s12 s13 s14 s15 s16
 obtain ⟨s3, s4, s5, s7, s10, s11, s12, s13, s14, s15, s16, s17⟩ := hKp
 refine nx (hK29 _ _ ?_)
 refine wp_block ?_
 refine wp_loop_ghost (fun gk2 fr w2 => ∃ (j : Nat) (st : Except Bad Nat) (la : List Arc) (V2 : Value), gk2 = hh - j ∧ j ≤ hh ∧ Fact.Fr 146 fr ∧ fr.tmps[3]? = some (.pointer (some ⟨w.heap.size, 0, none⟩)) ∧ fr.tmps[4]? = some (.pointer (some ⟨w.heap.size + 1, 0, none⟩)) ∧ fr.tmps[5]? = some (.string bd) ∧ fr.tmps[7]? = some (.pointer (some ⟨g, 0, none⟩)) ∧ fr.tmps[10]? = some (.int .u64 18446744073709551615) ∧ fr.tmps[11]? = some (.int .i64 en) ∧ fr.tmps[13]? = some (.pointer (some ⟨f, 0, none⟩)) ∧ fr.tmps[12]? = some (.int .u64 n) ∧ fr.tmps[14]? = some (.int .u64 i) ∧ fr.tmps[15]? = some (.int .u64 h) ∧ fr.tmps[16]? = some (.pointer (some ⟨gs, 0, none⟩)) ∧ fr.tmps[17]? = some (.int .u64 j) ∧ sArcs bd i hh s4_ [] = sArcs bd i (hh - j) st la ∧ la.length = j ∧ IN w2 g bd st ∧ OA w2 gs V2 la ∧ (∀ k, V2.ownBlock = some k → gs < k) ∧ w2.heap[gs]? = some (.cells #[V2, .bool (decide (h % 2 = 1)), .int .u64 of] 64 (0, 0)) ∧ But (fun k => k = g ∨ gs ≤ k) w18 w2) (hh) ?_ ?_
 · (
 exact ⟨0, s4_, [], _, rfl, Nat.zero_le _, hf, s3, s4, s5, s7, s10, s11, s13, s12, s14, s15, s16, s17, rfl, rfl, hinq, OA.nil_ _ _, (fun k h => by cases h), hpq, hbtq⟩)
 · (
 clear hf s3 s4 s5 s7 s10 s11 s12 s13 s14 s15 s16 s17
 rintro gk2 fr w2 ⟨j, st, la, V2, hk2, hj, hf, s3, s4, s5, s7, s10, s11, s13, s12, s14, s15, s16, s17, hpa2, hla, hin2, hoa, hvb2, hp2, hbt2⟩
 have HK2 := Lib.hid hk2; have HPA2 := Lib.hid hpa2; have HLA := Lib.hid hla; have HVB2 := Lib.hid hvb2; clear hk2 hpa2 hla hvb2
 rcases Nat.lt_or_ge j hh with hlj | hge2
 · (
 rcases st with b | p2
 · (
 have c2 := hin2.code.1
 simp only [codeOf] at c2
 have hb0 := hin2.err
 have q1 : decide (j < hh) = true := decide_eq_true hlj
 have q2 : ((b.1 : Int) == 0) = false := beq_eq_false_iff_ne.2 (by omega)
 refine Fact.sq fun K30 hK30 => ?_
 refine Fact.sq fun K31 hK31 => ?_
 refine rg ?_
 have b75 := hf.b 75
 have b76 := hf.b 76
 have b77 := hf.b 77
 have b78 := hf.b 78
 have b79 := hf.b 79
 have b80 := hf.b 80
 have b81 := hf.b 81
 have b82 := hf.b 82
 have b83 := hf.b 83
 have b84 := hf.b 84
 have b85 := hf.b 85
 refine fp fun K Z => ?_
 go_simp
 apply Z.out; clear Z K
 refine fp fun K Z => ?_
 go_simp
 apply Z.out; clear Z K
 refine fp fun K Z => ?_
 go_simp
 rw [show ((h : Int) / 2) = ((hh : Nat) : Int) by have := HH.out; omega]
 try rw [Fact.wrap_u64 (by omega) (by omega)]
 apply Z.out; clear Z K
 refine fp fun K Z => ?_
 go_simp
 apply Z.out; clear Z K
 refine fp fun K Z => ?_
 go_simp
 apply Z.out; clear Z K
 refine og 4 79 true ?_ fun K Z => ?_
 · (
 simp (decide := true) only [Fact.G, reduceIte, hf.size, q1, q2])
 go_simp
 apply Z.out; clear Z K
 refine og 4 79 true ?_ fun K Z => ?_
 · (
 simp (decide := true) only [Fact.G, reduceIte, hf.size, q1, q2])
 go_simp
 apply Z.out; clear Z K
 refine og 4 79 true ?_ fun K Z => ?_
 · (
 simp (decide := true) only [Fact.G, reduceIte, hf.size, q1, q2])
 go_simp
 apply Z.out; clear Z K
 refine og 4 79 true ?_ fun K Z => ?_
 · (
 simp (decide := true) only [Fact.G, reduceIte, hf.size, q1, q2])
 go_simp
 apply Z.out; clear Z K
 refine og 4 79 true ?_ fun K Z => ?_
 · (
 simp (decide := true) only [Fact.G, reduceIte, hf.size, q1, q2])
 go_simp
 apply Z.out; clear Z K
 refine og 4 79 true ?_ fun K Z => ?_
 · (
 simp (decide := true) only [Fact.G, reduceIte, hf.size, q1, q2])
 go_simp
 try rw [q2]
 apply Z.out; clear Z K
 refine fp fun K Z => ?_
 go_simp
 apply Z.out; clear Z K
 refine Fact.z hf fun fr1 hf1 hT => ?_
 have hKp : _ ∧ _ ∧ _ ∧ _ ∧ _ ∧ _ ∧ _ ∧ _ ∧ _ ∧ _ ∧ _ ∧ _ ∧ _ := ⟨hT 3, hT 4, hT 5, hT 7, hT 10, hT 11, hT 12, hT 13, hT 14, hT 15, hT 16, hT 17, hT 86⟩
 simp (decide := true) only [Fact.G, hf.size, reduceIte, s3, s4, s5, s7, s10, s11, s12, s13, s14, s15, s16, s17] at hKp
 replace hf := hf1; clear hT hf1 s3 s4 s5 s7 s10 s11 s12 s13 s14 s15 s16 s17 b75 b76 b77 b78 b79 b80 b81 b82 b83 b84 b85
 obtain ⟨s3, s4, s5, s7, s10, s11, s12, s13, s14, s15, s16, s17, s86⟩ := hKp
 refine nx (hK31 _ _ ?_)
 refine Fact.cond_f s86 ?_
 clear q1 q2 c2
 have hpb : sArcs bd i hh s4_ [] = (.error b, la) := by rw [HPA2.out, sArcs_e]
 have HPB := Lib.hid hpb; clear hpb
 refine wp_exit ?_
 refine Fact.then_exit ?_
 refine Fact.then_exit ?_
 refine Fact.block_exit ?_
 refine Fact.then_normal ?_
 exact ⟨_, la, V2, hf, s3, s4, s5, s7, s10, s11, s13, s12, s14, s15, s16, HPB.out, by have := HLA.out; omega, hin2, hoa, HVB2.out, hp2, hbt2⟩)
 · (
 have c2 := hin2.code.1
 simp only [codeOf] at c2
 have q1 : decide (j < hh) = true := decide_eq_true hlj
 have hps2 : p2 ≤ bd.size := hin2.2
 refine Fact.sq fun K32 hK32 => ?_
 refine Fact.sq fun K33 hK33 => ?_
 refine rg ?_
 have b75 := hf.b 75
 have b76 := hf.b 76
 have b77 := hf.b 77
 have b78 := hf.b 78
 have b79 := hf.b 79
 have b80 := hf.b 80
 have b81 := hf.b 81
 have b82 := hf.b 82
 have b83 := hf.b 83
 have b84 := hf.b 84
 have b85 := hf.b 85
 refine fp fun K Z => ?_
 go_simp
 apply Z.out; clear Z K
 refine fp fun K Z => ?_
 go_simp
 apply Z.out; clear Z K
 refine fp fun K Z => ?_
 go_simp
 rw [show ((h : Int) / 2) = ((hh : Nat) : Int) by have := HH.out; omega]
 try rw [Fact.wrap_u64 (by omega) (by omega)]
 apply Z.out; clear Z K
 refine fp fun K Z => ?_
 go_simp
 apply Z.out; clear Z K
 refine fp fun K Z => ?_
 go_simp
 apply Z.out; clear Z K
 refine og 4 79 true ?_ fun K Z => ?_
 · (
 simp (decide := true) only [Fact.G, reduceIte, hf.size, q1])
 go_simp
 apply Z.out; clear Z K
 refine og 4 79 true ?_ fun K Z => ?_
 · (
 simp (decide := true) only [Fact.G, reduceIte, hf.size, q1])
 go_simp
 apply Z.out; clear Z K
 refine og 4 79 true ?_ fun K Z => ?_
 · (
 simp (decide := true) only [Fact.G, reduceIte, hf.size, q1])
 go_simp
 apply Z.out; clear Z K
 refine og 4 79 true ?_ fun K Z => ?_
 · (
 simp (decide := true) only [Fact.G, reduceIte, hf.size, q1])
 go_simp
 apply Z.out; clear Z K
 refine og 4 79 true ?_ fun K Z => ?_
 · (
 simp (decide := true) only [Fact.G, reduceIte, hf.size, q1])
 go_simp
 apply Z.out; clear Z K
 refine og 4 79 true ?_ fun K Z => ?_
 · (
 simp (decide := true) only [Fact.G, reduceIte, hf.size, q1])
 go_simp
 apply Z.out; clear Z K
 refine fp fun K Z => ?_
 go_simp
 apply Z.out; clear Z K
 refine Fact.z hf fun fr1 hf1 hT => ?_
 have hKp : _ ∧ _ ∧ _ ∧ _ ∧ _ ∧ _ ∧ _ ∧ _ ∧ _ ∧ _ ∧ _ ∧ _ ∧ _ := ⟨hT 3, hT 4, hT 5, hT 7, hT 10, hT 11, hT 12, hT 13, hT 14, hT 15, hT 16, hT 17, hT 86⟩
 simp (decide := true) only [Fact.G, hf.size, reduceIte, s3, s4, s5, s7, s10, s11, s12, s13, s14, s15, s16, s17] at hKp
 replace hf := hf1; clear hT hf1 s3 s4 s5 s7 s10 s11 s12 s13 s14 s15 s16 s17 b75 b76 b77 b78 b79 b80 b81 b82 b83 b84 b85
 obtain ⟨s3, s4, s5, s7, s10, s11, s12, s13, s14, s15, s16, s17, s86⟩ := hKp
 refine nx (hK33 _ _ ?_)
 refine Fact.cond_t s86 ?_
 clear q1 c2
 obtain ⟨s6_, c, hc⟩ : ∃ a b, sChar bd (.ok p2) = (a, b) := ⟨_, _, rfl⟩
 have HCC := Lib.hid hc; clear hc
 have hoa2 := hoa; clear hoa
 obtain ⟨s7_, o, hn⟩ : ∃ a b, sNum bd 0 18446744073709551615 s6_ = (a, b) := ⟨_, _, rfl⟩
 have hle26 := sNum_le bd 0 18446744073709551615 s6_
 rw [hn] at hle26
 have HN26 := Lib.hid hn; clear hn
 replace hle26 : o ≤ 18446744073709551615 := hle26.1
 obtain ⟨s8_, d, hn⟩ : ∃ a b, sNum bd 1 i s7_ = (a, b) := ⟨_, _, rfl⟩
 have hle27 := sNum_le bd 1 i s7_
 rw [hn] at hle27
 have HN27 := Lib.hid hn; clear hn
 replace hle27 : d ≤ i := hle27.1
 refine wp_skip ?_
 refine nx (hK32 _ _ ?_)
 refine Fact.sq fun K34 hK34 => ?_
 refine wp_block ?_
 refine Fact.sq fun K35 hK35 => ?_
 refine rg ?_
 have b89 := hf.b 89
 have b90 := hf.b 90
 have b91 := hf.b 91
 have b18 := hf.b 18
 refine fp fun K Z => ?_
 go_simp
 apply Z.out; clear Z K
 refine fp fun K Z => ?_
 go_simp
 go_at_call 44; refine (rcharL w2 g bd (.ok p2) s6_ c hin2 hbd HCC.out).mono ?_; rintro e w25 ⟨rfl, hin25, hb25⟩
 have hp25 := hb25.heap hp2 (by omega)
 have hoa25 := own_but hoa2 hb25 (fun k hk e => by have := HVB2.out k hk; omega)
 have hbt25 : But (fun k => k = g ∨ gs ≤ k) w18 w25 := hbt2.trans (hb25.mono (fun k _ h => .inl h))
 have HOL := Lib.hid (fun k hk => (World.ownsRow.lt hoa25 k hk).2)
 clear hb25 hp2 hoa2 hbt2 hin2
 try dsimp only
 apply Z.out; clear Z K
 refine fp fun K Z => ?_
 go_simp
 apply Z.out; clear Z K
 refine fp fun K Z => ?_
 go_simp
 apply Z.out; clear Z K
 refine fp fun K Z => ?_
 go_simp
 apply Z.out; clear Z K
 refine Fact.z hf fun fr1 hf1 hT => ?_
 have hKp : _ ∧ _ ∧ _ ∧ _ ∧ _ ∧ _ ∧ _ ∧ _ ∧ _ ∧ _ ∧ _ ∧ _ ∧ _ := ⟨hT 3, hT 4, hT 5, hT 7, hT 10, hT 11, hT 12, hT 13, hT 14, hT 15, hT 16, hT 17, hT 18⟩
 simp (decide := true) only [Fact.G, hf.size, reduceIte, s3, s4, s5, s7, s10, s11, s12, s13, s14, s15, s16, s17] at hKp
 replace hf := hf1; clear hT hf1 s3 s4 s5 s7 s10 s11 s12 s13 s14 s15 s16 s17 s86 b89 b90 b91 b18
 obtain ⟨s3, s4, s5, s7, s10, s11, s12, s13, s14, s15, s16, s17, s18⟩ := hKp
 obtain ⟨ga, hga⟩ : ∃ x, w25.heap.size = x := ⟨_, rfl⟩
 obtain ⟨W25, hW25⟩ : ∃ x, w25.alloc (.cells #[.int .u8 c, .int .u64 0, .int .i64 0] 66) = x := ⟨_, rfl⟩
 try rw [hW25]
 obtain ⟨hbA, -, -, -, hpA, -⟩ := box3 hW25
 clear hW25
 have hgsa : gs < ga := by rw [← hga]; exact heap_lt hp25
 have hinA := hin25.later hbA
 have hbtA : But (fun k => k = g ∨ gs ≤ k) w18 W25 := hbt25.trans (But.of _ hbA)
 have hoaA := own_later hoa25 hbA
 have hpsA := (hbA.block _ (heap_lt hp25)).trans hp25
 rw [hga] at hpA
 try rw [hga] at s18
 clear hbA hin25 hbt25 hoa25 hp25
 have hga9 : ∀ k, V2.ownBlock = some k → k < ga := fun k hk => by rw [← hga]; exact HOL.out k hk
 have HGA := Lib.hid hga9; clear hga9 HOL
 refine nx (hK35 _ _ ?_)
 refine Fact.sq fun K36 hK36 => ?_
 refine rg ?_
 have b92 := hf.b 92
 have b93 := hf.b 93
 have b94 := hf.b 94
 have b95 := hf.b 95
 refine fp fun K Z => ?_
 go_simp
 apply Z.out; clear Z K
 refine fp fun K Z => ?_
 go_simp
 apply Z.out; clear Z K
 refine fp fun K Z => ?_
 go_simp
 go_at_call 46; refine (rnumL W25 g bd s6_ s7_ o hinA hbd 0 18446744073709551615 HN26.out).mono ?_; rintro e w26 ⟨rfl, hin26, hb26⟩
 have hpB := hb26.heap hpA (by omega)
 have hpsB := hb26.heap hpsA (by omega)
 have hoaB := own_but hoaA hb26 (fun k hk e => by have := HVB2.out k hk; omega)
 have hbtB : But (fun k => k = g ∨ gs ≤ k) w18 w26 := hbtA.trans (hb26.mono (fun k _ h => .inl h))
 have fz1 := frozen_of (i := 1) hpB
 have v1 := cell_of_row _ _ 1 _ 66 (0, 0) hpB
 simp at v1
 clear hpA hpsA hoaA hbtA hb26 hinA
 try dsimp only
 apply Z.out; clear Z K
 refine fp fun K Z => ?_
 go_simp
 apply Z.out; clear Z K
 refine fp fun K Z => ?_
 go_simp
 apply Z.out; clear Z K
 refine Fact.z hf fun fr1 hf1 hT => ?_
 have hKp : _ ∧ _ ∧ _ ∧ _ ∧ _ ∧ _ ∧ _ ∧ _ ∧ _ ∧ _ ∧ _ ∧ _ ∧ _ := ⟨hT 3, hT 4, hT 5, hT 7, hT 10, hT 11, hT 12, hT 13, hT 14, hT 15, hT 16, hT 17, hT 18⟩
 simp (decide := true) only [Fact.G, reduceIte, s3, s4, s5, s7, s10, s11, s12, s13, s14, s15, s16, s17, s18] at hKp
 replace hf := hf1; clear hT hf1 s3 s4 s5 s7 s10 s11 s12 s13 s14 s15 s16 s17 s18 b92 b93 b94 b95
 obtain ⟨s3, s4, s5, s7, s10, s11, s12, s13, s14, s15, s16, s17, s18⟩ := hKp
 have hbS : But (fun k => k = ga) w26 (w26.setCell ⟨ga, 1, none⟩ (.int .u64 o)) := But.setCell (S := fun k => k = ga) (p := ⟨ga, 1, none⟩) rfl _
 obtain ⟨W26, hW26⟩ : ∃ x, w26.setCell ⟨ga, 1, none⟩ (.int .u64 o) = x := ⟨_, rfl⟩
 have hpC := set3b hpB (.int .u64 o)
 rw [hW26] at hbS hpC
 try rw [hW26]
 have hinC := hin26.but hbS (by omega)
 have hpsC := hbS.heap hpsB (by omega)
 have hoaC := own_but hoaB hbS (fun k hk e => by have := HGA.out k hk; omega)
 have hbtC : But (fun k => k = g ∨ gs ≤ k) w18 W26 := hbtB.trans (hbS.mono (fun k _ h => .inr (by omega)))
 clear v1 hW26 hbS hpB hin26 hpsB hoaB hbtB fz1
 refine nx (hK36 _ _ ?_)
 refine Fact.sq fun K37 hK37 => ?_
 refine rg ?_
 have b96 := hf.b 96
 have b97 := hf.b 97
 have b98 := hf.b 98
 have b99 := hf.b 99
 have b100 := hf.b 100
 have b101 := hf.b 101
 have b102 := hf.b 102
 refine fp fun K Z => ?_
 go_simp
 apply Z.out; clear Z K
 refine fp fun K Z => ?_
 go_simp
 apply Z.out; clear Z K
 refine fp fun K Z => ?_
 go_simp
 apply Z.out; clear Z K
 refine fp fun K Z => ?_
 go_simp
 go_at_call 46; refine (rnumL W26 g bd s7_ s8_ d hinC hbd 1 i HN27.out).mono ?_; rintro e w27 ⟨rfl, hin27, hb27⟩
 have hpD := hb27.heap hpC (by omega)
 have hpsD := hb27.heap hpsC (by omega)
 have hoaD := own_but hoaC hb27 (fun k hk e => by have := HVB2.out k hk; omega)
 have hbtD : But (fun k => k = g ∨ gs ≤ k) w18 w27 := hbtC.trans (hb27.mono (fun k _ h => .inl h))
 have fz2 := frozen_of (i := 2) hpD
 have v2 := cell_of_row _ _ 2 _ 66 (0, 0) hpD
 simp at v2
 clear hpC hpsC hoaC hbtC hb27 hinC
 try dsimp only
 apply Z.out; clear Z K
 refine fp fun K Z => ?_
 go_simp
 try simp (disch := omega) only [Fact.W]
 try rw [Fact.wrap_u64 (by omega) (by omega)]
 apply Z.out; clear Z K
 refine fp fun K Z => ?_
 go_simp
 try rw [Fact.wrap_i64 (by omega) (by omega)]
 apply Z.out; clear Z K
 refine fp fun K Z => ?_
 go_simp
 apply Z.out; clear Z K
 refine fp fun K Z => ?_
 go_simp
 apply Z.out; clear Z K
 refine Fact.z hf fun fr1 hf1 hT => ?_
 have hKp : _ ∧ _ ∧ _ ∧ _ ∧ _ ∧ _ ∧ _ ∧ _ ∧ _ ∧ _ ∧ _ ∧ _ ∧ _ := ⟨hT 3, hT 4, hT 5, hT 7, hT 10, hT 11, hT 12, hT 13, hT 14, hT 15, hT 16, hT 17, hT 18⟩
 simp (decide := true) only [Fact.G, reduceIte, s3, s4, s5, s7, s10, s11, s12, s13, s14, s15, s16, s17, s18] at hKp
 replace hf := hf1; clear hT hf1 s3 s4 s5 s7 s10 s11 s12 s13 s14 s15 s16 s17 s18 b96 b97 b98 b99 b100 b101 b102
 obtain ⟨s3, s4, s5, s7, s10, s11, s12, s13, s14, s15, s16, s17, s18⟩ := hKp
 have hid : (i : Int) - d = ((i - d : Nat) : Int) := by omega
 try rw [hid]
 have hbS : But (fun k => k = ga) w27 (w27.setCell ⟨ga, 2, none⟩ (.int .i64 ((i - d : Nat) : Int))) := But.setCell (S := fun k => k = ga) (p := ⟨ga, 2, none⟩) rfl _
 obtain ⟨td, htd⟩ : ∃ x, ((i - d : Nat) : Int) = x := ⟨_, rfl⟩
 obtain ⟨W27, hW27⟩ : ∃ x, w27.setCell ⟨ga, 2, none⟩ (.int .i64 td) = x := ⟨_, rfl⟩
 rw [htd] at hbS
 try rw [htd]
 have hpE := set3c hpD (.int .i64 td)
 rw [hW27] at hbS hpE
 try rw [hW27]
 have hin28 := hin27.but hbS (by omega)
 have hp28 := hbS.heap hpsD (by omega)
 have hoa28 := own_but hoaD hbS (fun k hk e => by have := HGA.out k hk; omega)
 have hbt28 : But (fun k => k = g ∨ gs ≤ k) w18 W27 := hbtD.trans (hbS.mono (fun k _ h => .inr (by omega)))
 have HTD := Lib.hid htd
 clear v2 hW27 hbS hpD hin27 hpsD hoaD hbtD fz2 hid htd
 have har := arcS_eq (i := i) HCC.out HN26.out HN27.out
 rw [HTD.out] at har
 have HAR := Lib.hid har; clear har
 have v0 := cell_of_row _ _ 0 _ 66 (0, 0) hpE
 have v1 := cell_of_row _ _ 1 _ 66 (0, 0) hpE
 have v2 := cell_of_row _ _ 2 _ 66 (0, 0) hpE
 simp at v0 v1 v2
 obtain ⟨A3, c3, hv3, hc3⟩ := row_form hoa28
 subst hv3
 have g0 := cell_of_row _ _ 0 _ 64 (0, 0) hp28
 simp at g0
 have hz28 := hbt28.size
 have hlj2 : la.length ≤ 256 := by have := HLA.out; omega
 refine nx (hK37 _ _ ?_)
 refine rg ?_
 have b103 := hf.b 103
 have b104 := hf.b 104
 have b105 := hf.b 105
 have b106 := hf.b 106
 have b107 := hf.b 107
 have b108 := hf.b 108
 refine fp fun K Z => ?_
 go_simp
 apply Z.out; clear Z K
 refine fp fun K Z => ?_
 go_simp
 apply Z.out; clear Z K
 refine fp fun K Z => ?_
 go_simp
 apply Z.out; clear Z K
 refine fp fun K Z => ?_
 go_simp
 apply Z.out; clear Z K
 refine Fact.reL (n := 146) (by simp only [Fact.G, hf.size]) hf.defers (fun fr1 hf1 hT => ?_)
 have hKp : _ ∧ _ ∧ _ ∧ _ ∧ _ ∧ _ ∧ _ ∧ _ ∧ _ ∧ _ ∧ _ ∧ _ ∧ _ ∧ _ := ⟨hT 3, hT 4, hT 5, hT 7, hT 10, hT 11, hT 12, hT 13, hT 14, hT 15, hT 16, hT 17, hT 104, hT 106⟩
 simp (decide := true) only [Fact.G, hf.size, reduceIte, s3, s4, s5, s7, s10, s11, s12, s13, s14, s15, s16, s17] at hKp
 replace hf := hf1; clear hT hf1 s3 s4 s5 s7 s10 s11 s12 s13 s14 s15 s16 s17 s18 b103 b104 b105 b106 b107 b108
 obtain ⟨s3, s4, s5, s7, s10, s11, s12, s13, s14, s15, s16, s17, s104, s106⟩ := hKp
 have b107 := hf.b 107
 have b108 := hf.b 108
 refine ⟨?_⟩
 refine wpList_plain rfl fun K5 hK5 => ?_
 refine wp_app _ _ 62 rfl 66 _ 3 24 Tryd.underlying62 info_arcP rfl (by decide) (by decide) gs (.slice A3 la.length c3) la.length _ (Fact.eval_tmp s104) (hoa28.alloc _) W27.heap.size [.int .u8 c, .int .u64 o, .int .i64 td] (Fact.eval_tmp s106) rfl (lit_new W27 _ _) (by intro u hu; simp at hu; rcases hu with rfl | rfl | rfl <;> rfl) (by omega) (by simp; omega) (fun v5 w5 hr5 hg5 hat5 => hK5 _ _ ?_)
 refine Fact.L.out ?_
 obtain ⟨A5, c5, hv5, _⟩ := row_form hr5
 subst hv5
 have hba : But (fun k => (.slice A3 la.length c3 : Value).ownBlock = some k) W27 w5 := (But.alloc (S := fun k => (.slice A3 la.length c3 : Value).ownBlock = some k) W27 _).trans (But.grown hg5 (fun k hk => hk))
 have hp29 := hba.heap hp28 (fun h => by have := HVB2.out _ h; omega)
 have hin29 := hin28.but hba (fun h => by have := HVB2.out _ h; omega)
 have g1 := cell_of_row _ _ 0 _ 64 (0, 0) hp29; have fz5 := frozen_of (i := 0) hp29
 simp at g1
 have hvb5 : ∀ k, (.slice A5 (la.length + 1) c5 : Value).ownBlock = some k → gs < k := fun k hk => by rcases hat5 with h | h; (rw [h] at hk; exact HVB2.out k hk); (rw [h] at hk; injection hk with hk; simp at hk; omega)
 have hbt29 : But (fun k => k = g ∨ gs ≤ k) w18 w5 := hbt28.trans (hba.mono (fun k _ h => .inr (by have := HVB2.out k h; omega)))
 refine fp fun K Z => ?_
 go_simp
 apply Z.out; clear Z K
 refine fp fun K Z => ?_
 go_simp
 apply Z.out; clear Z K
 refine Fact.z hf fun fr1 hf1 hT => ?_
 have hKp : _ ∧ _ ∧ _ ∧ _ ∧ _ ∧ _ ∧ _ ∧ _ ∧ _ ∧ _ ∧ _ ∧ _ := ⟨hT 3, hT 4, hT 5, hT 7, hT 10, hT 11, hT 12, hT 13, hT 14, hT 15, hT 16, hT 17⟩
 simp (decide := true) only [Fact.G, reduceIte, s3, s4, s5, s7, s10, s11, s12, s13, s14, s15, s16, s17] at hKp
 replace hf := hf1; clear hT hf1 s3 s4 s5 s7 s10 s11 s12 s13 s14 s15 s16 s17 s104 s106 b107 b108
 obtain ⟨s3, s4, s5, s7, s10, s11, s12, s13, s14, s15, s16, s17⟩ := hKp
 have hp30 := set3a hp29 (.slice A5 (la.length + 1) c5)
 have hbT : But (fun k => k = gs) w5 (w5.setCell ⟨gs, 0, none⟩ (.slice A5 (la.length + 1) c5)) := But.setCell (S := fun k => k = gs) (p := ⟨gs, 0, none⟩) rfl _
 have hbt30 : But (fun k => k = g ∨ gs ≤ k) w18 (w5.setCell ⟨gs, 0, none⟩ (.slice A5 (la.length + 1) c5)) := hbt29.trans (hbT.mono (fun k _ h => .inr (by omega)))
 have hin30 := hin29.but hbT (by omega)
 have hoa30 : OA (w5.setCell ⟨gs, 0, none⟩ (.slice A5 (la.length + 1) c5)) gs (.slice A5 (la.length + 1) c5) (la ++ [⟨c, o, td⟩]) := by unfold OA; rw [List.length_append, acs_append]; exact own_but hr5 hbT (fun k hk h => by have := hvb5 k hk; omega)
 refine Fact.block_normal ?_
 refine nx (hK34 _ _ ?_)
 refine rg ?_
 have b87 := hf.b 87
 have b88 := hf.b 88
 refine fp fun K Z => ?_
 go_simp
 apply Z.out; clear Z K
 refine fp fun K Z => ?_
 go_simp
 try simp (disch := omega) only [Fact.W]
 apply Z.out; clear Z K
 refine fp fun K Z => ?_
 go_simp
 apply Z.out; clear Z K
 refine Fact.z hf fun fr1 hf1 hT => ?_
 have hKp : _ ∧ _ ∧ _ ∧ _ ∧ _ ∧ _ ∧ _ ∧ _ ∧ _ ∧ _ ∧ _ ∧ _ := ⟨hT 3, hT 4, hT 5, hT 7, hT 10, hT 11, hT 12, hT 13, hT 14, hT 15, hT 16, hT 17⟩
 simp (decide := true) only [Fact.G, hf.size, reduceIte, s3, s4, s5, s7, s10, s11, s12, s13, s14, s15, s16] at hKp
 replace hf := hf1; clear hT hf1 s3 s4 s5 s7 s10 s11 s12 s13 s14 s15 s16 s17 b87 b88
 obtain ⟨s3, s4, s5, s7, s10, s11, s12, s13, s14, s15, s16, s17⟩ := hKp
 refine Fact.then_normal ?_
 exact ⟨_, by have := HK2.out; omega, j + 1, _, la ++ [⟨c, o, td⟩], _, rfl, by omega, hf, s3, s4, s5, s7, s10, s11, s13, s12, s14, s15, s16, by rw [s17]; rfl, by rw [HPA2.out, show hh - j = (hh - (j + 1)) + 1 by omega, sArcs, HAR.out], by rw [List.length_append, HLA.out]; rfl, hin30, hoa30, hvb5, hp30, hbt30⟩))
 · (
 have q1 : decide (j < hh) = false := decide_eq_false (by omega)
 refine Fact.sq fun K38 hK38 => ?_
 refine Fact.sq fun K39 hK39 => ?_
 refine rg ?_
 have b75 := hf.b 75
 have b76 := hf.b 76
 have b77 := hf.b 77
 have b78 := hf.b 78
 have b79 := hf.b 79
 have b80 := hf.b 80
 have b81 := hf.b 81
 have b82 := hf.b 82
 have b83 := hf.b 83
 have b84 := hf.b 84
 have b85 := hf.b 85
 refine fp fun K Z => ?_
 go_simp
 apply Z.out; clear Z K
 refine fp fun K Z => ?_
 go_simp
 apply Z.out; clear Z K
 refine fp fun K Z => ?_
 go_simp
 rw [show ((h : Int) / 2) = ((hh : Nat) : Int) by have := HH.out; omega]
 try rw [Fact.wrap_u64 (by omega) (by omega)]
 apply Z.out; clear Z K
 refine fp fun K Z => ?_
 go_simp
 apply Z.out; clear Z K
 refine fp fun K Z => ?_
 go_simp
 apply Z.out; clear Z K
 refine sk 4 79 true ?_ ?_
 · (
 simp (decide := true) only [Fact.G, reduceIte, hf.size, q1, Fact.N])
 refine sk 4 79 true ?_ ?_
 · (
 simp (decide := true) only [Fact.G, reduceIte, hf.size, q1, Fact.N])
 refine sk 4 79 true ?_ ?_
 · (
 simp (decide := true) only [Fact.G, reduceIte, hf.size, q1, Fact.N])
 refine sk 4 79 true ?_ ?_
 · (
 simp (decide := true) only [Fact.G, reduceIte, hf.size, q1, Fact.N])
 refine sk 4 79 true ?_ ?_
 · (
 simp (decide := true) only [Fact.G, reduceIte, hf.size, q1, Fact.N])
 refine sk 4 79 true ?_ ?_
 · (
 simp (decide := true) only [Fact.G, reduceIte, hf.size, q1, Fact.N])
 refine fp fun K Z => ?_
 go_simp
 apply Z.out; clear Z K
 refine Fact.z hf fun fr1 hf1 hT => ?_
 have hKp : _ ∧ _ ∧ _ ∧ _ ∧ _ ∧ _ ∧ _ ∧ _ ∧ _ ∧ _ ∧ _ ∧ _ ∧ _ := ⟨hT 3, hT 4, hT 5, hT 7, hT 10, hT 11, hT 12, hT 13, hT 14, hT 15, hT 16, hT 17, hT 86⟩
 simp (decide := true) only [Fact.G, hf.size, reduceIte, s3, s4, s5, s7, s10, s11, s12, s13, s14, s15, s16, s17] at hKp
 replace hf := hf1; clear hT hf1 s3 s4 s5 s7 s10 s11 s12 s13 s14 s15 s16 s17 b75 b76 b77 b78 b79 b80 b81 b82 b83 b84 b85
 obtain ⟨s3, s4, s5, s7, s10, s11, s12, s13, s14, s15, s16, s17, s86⟩ := hKp
 refine nx (hK39 _ _ ?_)
 refine Fact.cond_f s86 ?_
 clear q1
 have hpb : sArcs bd i hh s4_ [] = (st, la) := by rw [HPA2.out, show hh - j = 0 by omega]; rfl
 have HPB := Lib.hid hpb; clear hpb
 refine wp_exit ?_
 refine Fact.then_exit ?_
 refine Fact.then_exit ?_
 refine Fact.block_exit ?_
 refine Fact.then_normal ?_
 exact ⟨_, la, V2, hf, s3, s4, s5, s7, s10, s11, s13, s12, s14, s15, s16, HPB.out, by have := HLA.out; omega, hin2, hoa, HVB2.out, hp2, hbt2⟩)))
 · (
 clear hf s3 s4 s5 s7 s10 s11 s12 s13 s14 s15 s16
 rintro fr w2 ⟨s5_, la, V2, hf, s3, s4, s5, s7, s10, s11, s13, s12, s14, s15, s16, hsa, hla, hin2, hoa, hvb2, hp2, hbt2⟩
 have HSA := Lib.hid hsa; have HVB2 := Lib.hid hvb2; clear hsa hvb2 hinq hpq hbtq
 have hpf2 := hbt2.heap hpf18 (by omega)
 have hsr2 := hsr18.but hbt2 (fun k hk e => by have := HVB.out k hk; have := (World.ownsRow.lt hsr18.row k hk).2; omega) (fun k hk e => by have := HC18.out k hk; omega)
 have hvlt : ∀ k, V.ownBlock = some k → k < gs := fun k hk => by have := (World.ownsRow.lt hsr18.row k hk).2; omega
 have HVL := Lib.hid hvlt; clear hvlt
 have hbtf : But (fun k => k = g ∨ f ≤ k) W14 w2 := hbt18.trans (hbt2.mono (fun k _ h => h.elim .inl (fun h => .inr (by omega))))
 have hz2 := hbt2.size
 have hst : sState bd i (.ok p) = (s5_, ⟨decide (h % 2 = 1), of, la⟩) := sState_eq HN18.out HSO.out (by rw [HH.out]; exact HSA.out)
 have HST := Lib.hid hst; clear hst
 obtain ⟨Av, cv, hv9, hcv⟩ := hsr2.form
 subst hv9
 obtain ⟨A3, c3, hv3, hc3⟩ := row_form hoa
 subst hv3
 have g0 := cell_of_row _ _ 0 _ 25 (0, 0) hpf2; have h0 := cell_of_row _ _ 0 _ 64 (0, 0) hp2; have h1 := cell_of_row _ _ 1 _ 64 (0, 0) hp2; have h2 := cell_of_row _ _ 2 _ 64 (0, 0) hp2
 simp at g0 h0 h1 h2
 have hl9 : l.length ≤ 1000000000 := by rw [HL.out]; omega
 have hg2 : gs < w2.heap.size := heap_lt hp2
 have hzs : gs ≤ w2.heap.size := Nat.le_of_lt hg2
 obtain ⟨fl, hfl⟩ : ∃ x, decide (h % 2 = 1) = x := ⟨_, rfl⟩
 rw [hfl] at hp2 h1
 have HFL := Lib.hid hfl; clear hfl
 refine rg ?_
 have b109 := hf.b 109
 have b110 := hf.b 110
 have b111 := hf.b 111
 have b112 := hf.b 112
 have b113 := hf.b 113
 have b114 := hf.b 114
 refine fp fun K Z => ?_
 go_simp
 apply Z.out; clear Z K
 refine fp fun K Z => ?_
 go_simp
 apply Z.out; clear Z K
 refine fp fun K Z => ?_
 go_simp
 apply Z.out; clear Z K
 refine fp fun K Z => ?_
 go_simp
 apply Z.out; clear Z K
 refine Fact.reL (n := 146) (by simp only [Fact.G, hf.size]) hf.defers (fun fr1 hf1 hT => ?_)
 have hKp : _ ∧ _ ∧ _ ∧ _ ∧ _ ∧ _ ∧ _ ∧ _ ∧ _ ∧ _ ∧ _ := ⟨hT 3, hT 4, hT 5, hT 7, hT 10, hT 11, hT 12, hT 13, hT 14, hT 110, hT 112⟩
 simp (decide := true) only [Fact.G, hf.size, reduceIte, s3, s4, s5, s7, s10, s11, s12, s13, s14] at hKp
 replace hf := hf1; clear hT hf1 s3 s4 s5 s7 s10 s11 s12 s13 s14 s15 s16 b109 b110 b111 b112 b113 b114
 obtain ⟨s3, s4, s5, s7, s10, s11, s12, s13, s14, s110, s112⟩ := hKp
 have b113 := hf.b 113
 have b114 := hf.b 114
 refine ⟨?_⟩
 refine wpList_plain rfl fun K5 hK5 => ?_
 refine wp_app _ _ 22 rfl 64 _ 3 40 Tryd.underlying22 info_state rfl (by decide) (by decide) f (.slice Av l.length cv) l.length _ (Fact.eval_tmp s110) (hsr2.row.alloc _) w2.heap.size [.slice A3 la.length c3, .bool fl, .int .u64 of] (Fact.eval_tmp s112) rfl (lit_new w2 _ _) (by intro u hu; simp at hu; rcases hu with rfl | rfl | rfl <;> rfl) (by omega) (by simp; omega) (fun v5 w5 hr5 hg5 hat5 => hK5 _ _ ?_)
 refine Fact.L.out ?_
 obtain ⟨A5, c5, hv5, _⟩ := row_form hr5
 subst hv5
 obtain ⟨Wl, hWl⟩ : ∃ x, w2.alloc (.cells #[.slice A3 la.length c3, .bool fl, .int .u64 of] 64) = x := ⟨_, rfl⟩
 have hbl9 : Below w2.heap.size w2 Wl := by rw [← hWl]; exact (Below.refl _ _).alloc (Nat.le_refl _) _
 have hszl : Wl.heap.size = w2.heap.size + 1 := by rw [← hWl]; simp
 try rw [hWl] at hr5 hg5 hat5
 try simp only [List.toArray] at hg5 hat5
 try rw [hWl] at hg5 hat5
 have hsrl := hsr2.later hbl9
 have hoal := own_later hoa hbl9
 have hbw : But (fun k => (.slice Av l.length cv : Value).ownBlock = some k) w2 w5 := (But.of _ hbl9).trans (But.grown hg5 (fun k hk => hk))
 have hnvV : ∀ k, (.slice A3 la.length c3 : Value).ownBlock = some k → (.slice Av l.length cv : Value).ownBlock ≠ some k := fun k hk h => by have := HVB2.out k hk; have := HVL.out k h; omega
 have hsr5 := SR.app (st := ⟨fl, of, la⟩) hsrl hoal hnvV (fun k hk => (HC18.out k hk).2.2) hg5 hr5
 have hpf5 := hbw.heap hpf2 (fun h => by have := HVB.out _ h; omega)
 have hin5 := hin2.but hbw (fun h => by have := HVB.out _ h; omega)
 have g1 := cell_of_row _ _ 0 _ 25 (0, 0) hpf5; have fz5 := frozen_of (i := 0) hpf5
 simp at g1
 have hvb5 : ∀ k, (.slice A5 (l.length + 1) c5 : Value).ownBlock = some k → f < k := fun k hk => by rcases hat5 with h | h; (rw [h] at hk; exact HVB.out k hk); (rw [h] at hk; injection hk with hk; omega)
 have hz5 := hbw.size
 have hz6 := hg5.size
 have hC5 := sr_more HC18.out (fun k hk => by have := HVB2.out k hk; have := (World.ownsRow.lt hoa k hk).2; exact ⟨by omega, by omega⟩ : ∀ k, (.slice A3 la.length c3 : Value).ownBlock = some k → f < k ∧ k < w2.heap.size) hnvV hat5 (show w18.heap.size ≤ w2.heap.size by omega) (show w2.heap.size ≤ Wl.heap.size by omega) (show w2.heap.size ≤ w5.heap.size by omega)
 have hbt5 : But (fun k => k = g ∨ f ≤ k) W14 w5 := hbtf.trans (hbw.mono (fun k _ h => .inr (by have := HVB.out k h; omega)))
 refine fp fun K Z => ?_
 go_simp
 apply Z.out; clear Z K
 refine fp fun K Z => ?_
 go_simp
 apply Z.out; clear Z K
 refine Fact.z hf fun fr1 hf1 hT => ?_
 have hKp : _ ∧ _ ∧ _ ∧ _ ∧ _ ∧ _ ∧ _ ∧ _ ∧ _ := ⟨hT 3, hT 4, hT 5, hT 7, hT 10, hT 11, hT 12, hT 13, hT 14⟩
 simp (decide := true) only [Fact.G, reduceIte, s3, s4, s5, s7, s10, s11, s12, s13, s14] at hKp
 replace hf := hf1; clear hT hf1 s3 s4 s5 s7 s10 s11 s12 s13 s14 s110 s112 b113 b114
 obtain ⟨s3, s4, s5, s7, s10, s11, s12, s13, s14⟩ := hKp
 obtain ⟨W29, hW29⟩ : ∃ x, w5.setCell ⟨f, 0, none⟩ (.slice A5 (l.length + 1) c5) = x := ⟨_, rfl⟩
 try rw [hW29]
 have hbT : But (fun k => k = f) w5 W29 := by rw [← hW29]; exact But.setCell (S := fun k => k = f) rfl _
 have hpf17 : W29.heap[f]? = some (.cells #[.slice A5 (l.length + 1) c5, .int .u64 0] 25 (0, 0)) := by rw [← hW29]; exact (set_block (i := 0) hpf5 _).trans (by simp)
 have hin17 := hin5.but hbT (by omega)
 have hsr17 := hsr5.but hbT (fun k hk e => by have := hvb5 k (by rw [← hk]); omega) (fun k hk e => by have := (hC5 k hk).1; omega)
 have hbt17 : But (fun k => k = g ∨ f ≤ k) W14 W29 := hbt5.trans (hbT.mono (fun k _ h => .inr (by omega)))
 have hzT := hbT.size
 have hC17 := fun k hk => (⟨(hC5 k hk).1, Nat.lt_of_lt_of_le (hC5 k hk).2.1 hzT, (hC5 k hk).2.2⟩ : f < k ∧ k < W29.heap.size ∧ (.slice A5 (l.length + 1) c5 : Value).ownBlock ≠ some k)
 have hvb17 := hvb5
 have hp17 : sStates bd n 0 st2 [] = sStates bd (n - (i + 1)) (i + 1) s5_ ((l ++ [((.slice A3 la.length c3 : Value), (⟨fl, of, la⟩ : State))]).map Prod.snd) := by rw [HPA.out, show n - i = (n - (i + 1)) + 1 by omega, sStates, HST.out, HFL.out, List.map_append]; rfl
 have HP17 := Lib.hid hp17; clear hp17
 have hip17 : ∀ q, s5_ = .ok q → i + 1 ≤ q := fun q hq => by have := (sState_more (s := bd) (i := i) (p := p) (p' := q) (by omega) (by rw [HST.out]; exact hq)).1; omega
 have hli17 : (l ++ [((.slice A3 la.length c3 : Value), (⟨fl, of, la⟩ : State))]).length = i + 1 := by rw [List.length_append, HL.out]; rfl
 refine Fact.block_normal ?_
 refine nx (hK25 _ _ ?_)
 refine rg ?_
 have b61 := hf.b 61
 have b62 := hf.b 62
 refine fp fun K Z => ?_
 go_simp
 apply Z.out; clear Z K
 refine fp fun K Z => ?_
 go_simp
 try simp (disch := omega) only [Fact.W]
 apply Z.out; clear Z K
 refine fp fun K Z => ?_
 go_simp
 apply Z.out; clear Z K
 refine Fact.z hf fun fr1 hf1 hT => ?_
 have hKp : _ ∧ _ ∧ _ ∧ _ ∧ _ ∧ _ ∧ _ ∧ _ ∧ _ := ⟨hT 3, hT 4, hT 5, hT 7, hT 10, hT 11, hT 12, hT 13, hT 14⟩
 simp (decide := true) only [Fact.G, hf.size, reduceIte, s3, s4, s5, s7, s10, s11, s12, s13] at hKp
 replace hf := hf1; clear hT hf1 s3 s4 s5 s7 s10 s11 s12 s13 s14 b61 b62
 obtain ⟨s3, s4, s5, s7, s10, s11, s12, s13, s14⟩ := hKp
 refine Fact.then_normal ?_
 exact ⟨_, by have := HK.out; omega, i + 1, _, _, _, _, rfl, by omega, hf, s3, s4, s5, s7, s10, s11, s13, s12, by rw [s14]; rfl, HP17.out, hip17, hli17, hpf17, hin17, hsr17, hvb17, hC17, hbt17⟩))))
 · (
 have q1 : decide (i < n) = false := decide_eq_false (by omega)
 refine Fact.sq fun K40 hK40 => ?_
 refine Fact.sq fun K41 hK41 => ?_
 refine rg ?_
 have b50 := hf.b 50
 have b51 := hf.b 51
 have b52 := hf.b 52
 have b53 := hf.b 53
 have b54 := hf.b 54
 have b55 := hf.b 55
 have b56 := hf.b 56
 have b57 := hf.b 57
 have b58 := hf.b 58
 have b59 := hf.b 59
 refine fp fun K Z => ?_
 go_simp
 apply Z.out; clear Z K
 refine fp fun K Z => ?_
 go_simp
 apply Z.out; clear Z K
 refine fp fun K Z => ?_
 go_simp
 apply Z.out; clear Z K
 refine fp fun K Z => ?_
 go_simp
 apply Z.out; clear Z K
 refine sk 3 53 true ?_ ?_
 · (
 simp (decide := true) only [Fact.G, reduceIte, hf.size, q1, Fact.N])
 refine sk 3 53 true ?_ ?_
 · (
 simp (decide := true) only [Fact.G, reduceIte, hf.size, q1, Fact.N])
 refine sk 3 53 true ?_ ?_
 · (
 simp (decide := true) only [Fact.G, reduceIte, hf.size, q1, Fact.N])
 refine sk 3 53 true ?_ ?_
 · (
 simp (decide := true) only [Fact.G, reduceIte, hf.size, q1, Fact.N])
 refine sk 3 53 true ?_ ?_
 · (
 simp (decide := true) only [Fact.G, reduceIte, hf.size, q1, Fact.N])
 refine sk 3 53 true ?_ ?_
 · (
 simp (decide := true) only [Fact.G, reduceIte, hf.size, q1, Fact.N])
 refine fp fun K Z => ?_
 go_simp
 apply Z.out; clear Z K
 refine Fact.z hf fun fr1 hf1 hT => ?_
 have hKp : _ ∧ _ ∧ _ ∧ _ ∧ _ ∧ _ ∧ _ ∧ _ ∧ _ ∧ _ := ⟨hT 3, hT 4, hT 5, hT 7, hT 10, hT 11, hT 12, hT 13, hT 14, hT 60⟩
 simp (decide := true) only [Fact.G, hf.size, reduceIte, s3, s4, s5, s7, s10, s11, s12, s13, s14] at hKp
 replace hf := hf1; clear hT hf1 s3 s4 s5 s7 s10 s11 s12 s13 s14 b50 b51 b52 b53 b54 b55 b56 b57 b58 b59
 obtain ⟨s3, s4, s5, s7, s10, s11, s12, s13, s14, s60⟩ := hKp
 refine nx (hK41 _ _ ?_)
 refine Fact.cond_f s60 ?_
 clear q1
 have hpb : sStates bd n 0 st2 [] = (st, l.map Prod.snd) := by rw [HPA.out, show n - i = 0 by omega]; rfl
 have HPB := Lib.hid hpb; clear hpb
 refine wp_exit ?_
 refine Fact.then_exit ?_
 refine Fact.then_exit ?_
 refine Fact.block_exit ?_
 refine Fact.then_normal ?_
 exact ⟨_, V, l, C, hf, s3, s4, s5, s7, s10, s11, s13, HPB.out, hpg, hin, hsr, HVB.out, HC.out, hbt⟩)))
 · (
 clear hf s3 s4 s5 s7 s10 s11 s12 s13
 rintro fr wq ⟨st, V, l, C, hf, s3, s4, s5, s7, s10, s11, s13, hpa, hpf2, hin, hsr, hvb, hC, hbt⟩
 have HPA := Lib.hid hpa; have HVB := Lib.hid hvb; have HC := Lib.hid hC; clear hpa hvb hC hpf hin14
 have hz14 := hbt.size
 have hu3 := hbt.heap ht3 (by omega); have hu4 := hbt.heap ht4 (by omega)
 clear ht3 ht4
 obtain ⟨s9_, init, hn⟩ : ∃ a b, sNum bd 0 18446744073709551615 st = (a, b) := ⟨_, _, rfl⟩
 have hle30 := sNum_le bd 0 18446744073709551615 st
 rw [hn] at hle30
 have HN30 := Lib.hid hn; clear hn
 replace hle30 : init ≤ 18446744073709551615 := hle30.1
 refine Fact.sq fun K42 hK42 => ?_
 refine rg ?_
 have b115 := hf.b 115
 have b116 := hf.b 116
 have b117 := hf.b 117
 have b118 := hf.b 118
 refine fp fun K Z => ?_
 go_simp
 apply Z.out; clear Z K
 refine fp fun K Z => ?_
 go_simp
 apply Z.out; clear Z K
 refine fp fun K Z => ?_
 go_simp
 go_at_call 46; refine (rnumL wq g bd st s9_ init hin hbd 0 18446744073709551615 HN30.out).mono ?_; rintro e w30 ⟨rfl, hin30, hb30⟩
 have hpf30 := hb30.heap hpf2 (by omega)
 have hsr30 := hsr.but hb30 (fun k hk e => by have := HVB.out k hk; omega) (fun k hk e => by have := (HC.out k hk).1; omega)
 have hv3 := hb30.heap hu3 (by omega); have hv4 := hb30.heap hu4 (by omega)
 have fz1 := frozen_of (i := 1) hpf30
 have e1 := cell_of_row _ _ 1 _ 25 (0, 0) hpf30
 simp at e1
 skip
 try dsimp only
 apply Z.out; clear Z K
 refine fp fun K Z => ?_
 go_simp
 apply Z.out; clear Z K
 refine fp fun K Z => ?_
 go_simp
 apply Z.out; clear Z K
 refine Fact.z hf fun fr1 hf1 hT => ?_
 have hKp : _ ∧ _ ∧ _ ∧ _ ∧ _ ∧ _ := ⟨hT 3, hT 4, hT 5, hT 7, hT 11, hT 13⟩
 simp (decide := true) only [Fact.G, reduceIte, s3, s4, s5, s7, s11, s13] at hKp
 replace hf := hf1; clear hT hf1 s3 s4 s5 s7 s10 s11 s13 b115 b116 b117 b118
 obtain ⟨s3, s4, s5, s7, s11, s13⟩ := hKp
 obtain ⟨W30, hW30⟩ : ∃ x, w30.setCell ⟨f, 1, none⟩ (.int .u64 init) = x := ⟨_, rfl⟩
 try rw [hW30]
 have hbS : But (fun k => k = f) w30 W30 := by rw [← hW30]; exact But.setCell (S := fun k => k = f) rfl _
 have hpf31 : W30.heap[f]? = some (.cells #[V, .int .u64 init] 25 (0, 0)) := by rw [← hW30]; exact (set_block (i := 1) hpf30 _).trans (by simp)
 clear hW30
 have hin31 := hin30.but hbS (by omega)
 have hsr31 := hsr30.but hbS (fun k hk e => by have := HVB.out k hk; omega) (fun k hk e => by have := (HC.out k hk).1; omega)
 have hx3 := hbS.heap hv3 (by omega); have hx4 := hbS.heap hv4 (by omega)
 have hb031 : Below w.heap.size w W30 := hb014.trans ((hbt.below (B := w.heap.size) hb014.size (fun k h => by omega)).trans ((hb30.below (B := w.heap.size) (Nat.le_trans hb014.size hbt.size) (fun k h => by omega)).trans (hbS.below (B := w.heap.size) (Nat.le_trans hb014.size (Nat.le_trans hbt.size hb30.size)) (fun k h => by omega))))
 have hrs31 := hsr31.rs
 have hal := sAll_eq HM0.out HN12.out HN13.out HPA.out HN30.out
 have HAL := Lib.hid hal; clear e1 hal hbS hpf30 hin30 hsr30 hsr hv3 hv4 fz1 hb30 hbt hb014
 obtain ⟨i, hi, hie, hpI⟩ := hin31.cells
 have c1 := cell_of_row _ _ 1 _ 101 (0, 0) hpI
 simp [INC] at c1
 clear hpI
 refine nx (hK42 _ _ ?_)
 refine Fact.sq fun K43 hK43 => ?_
 refine Fact.sq fun K44 hK44 => ?_
 refine rg ?_
 have b119 := hf.b 119
 have b120 := hf.b 120
 have b121 := hf.b 121
 have b122 := hf.b 122
 have b123 := hf.b 123
 have b124 := hf.b 124
 refine fp fun K Z => ?_
 go_simp
 apply Z.out; clear Z K
 refine fp fun K Z => ?_
 go_simp
 apply Z.out; clear Z K
 refine fp fun K Z => ?_
 go_simp
 apply Z.out; clear Z K
 refine fp fun K Z => ?_
 go_simp
 apply Z.out; clear Z K
 refine fp fun K Z => ?_
 go_simp
 apply Z.out; clear Z K
 refine fp fun K Z => ?_
 go_simp
 apply Z.out; clear Z K
 refine fp fun K Z => ?_
 go_simp
 apply Z.out; clear Z K
 refine Fact.z hf fun fr1 hf1 hT => ?_
 have hKp : _ ∧ _ ∧ _ ∧ _ ∧ _ ∧ _ := ⟨hT 3, hT 4, hT 7, hT 11, hT 13, hT 125⟩
 simp (decide := true) only [Fact.G, hf.size, reduceIte, s3, s4, s7, s11, s13] at hKp
 replace hf := hf1; clear hT hf1 s3 s4 s5 s7 s11 s13 b119 b120 b121 b122 b123 b124
 obtain ⟨s3, s4, s7, s11, s13, s125⟩ := hKp
 refine nx (hK44 _ _ ?_)
 refine Fact.cond_s s125 (fun hq => ?_) (fun hq => ?_)
 · (
 have hlt : i < bd.size := by have h9 := of_decide_eq_true hq; omega
 have HLT := Lib.hid hlt; clear hq hlt
 obtain ⟨b, hsf⟩ := sFail_err (4, i) s9_
 refine rg ?_
 have b126 := hf.b 126
 have b127 := hf.b 127
 have b128 := hf.b 128
 have b129 := hf.b 129
 have b130 := hf.b 130
 refine fp fun K Z => ?_
 go_simp
 apply Z.out; clear Z K
 refine fp fun K Z => ?_
 go_simp
 apply Z.out; clear Z K
 refine fp fun K Z => ?_
 go_simp
 apply Z.out; clear Z K
 refine fp fun K Z => ?_
 go_simp
 apply Z.out; clear Z K
 refine fp fun K Z => ?_
 go_simp
 apply Z.out; clear Z K
 refine fp fun K Z => ?_
 go_simp
 go_at_call 45; refine (rfail9 W30 g bd s9_ hin31 4 i (by simp)).mono ?_; rintro e w32 ⟨rfl, hin32, hb32⟩
 have hy3 := hb32.heap hx3 (by omega); have hy4 := hb32.heap hx4 (by omega)
 have hb032 : Below w.heap.size w w32 := hb031.trans (hb32.below (B := w.heap.size) hb031.size (fun k h => by omega))
 have hae : pAll bd = .error b := by rw [HAL.out]; exact sEnd_long hie HLT.out hsf
 rw [hsf] at hin32
 have HAE := Lib.hid hae; clear hae
 try dsimp only
 apply Z.out; clear Z K
 refine Fact.z hf fun fr1 hf1 hT => ?_
 have hKp : _ ∧ _ ∧ _ ∧ _ ∧ _ := ⟨hT 3, hT 4, hT 7, hT 11, hT 13⟩
 simp (decide := true) only [Fact.G, reduceIte, s3, s4, s7, s11, s13] at hKp
 replace hf := hf1; clear hT hf1 s3 s4 s7 s11 s13 s125 b126 b127 b128 b129 b130
 obtain ⟨s3, s4, s7, s11, s13⟩ := hKp
 refine nx (hK43 _ _ ?_)
 have c2 := hin32.code.1; have c3 := hin32.code.2
 simp only [codeOf, placeOf] at c2 c3
 have hb0 := hin32.err
 have q1 : ((b.1 : Int) != 0) = true := by simp; omega
 refine Fact.sq fun K45 hK45 => ?_
 refine Fact.sq fun K46 hK46 => ?_
 refine rg ?_
 have b132 := hf.b 132
 have b133 := hf.b 133
 have b134 := hf.b 134
 have b135 := hf.b 135
 have b136 := hf.b 136
 refine fp fun K Z => ?_
 go_simp
 apply Z.out; clear Z K
 refine fp fun K Z => ?_
 go_simp
 apply Z.out; clear Z K
 refine fp fun K Z => ?_
 go_simp
 apply Z.out; clear Z K
 refine fp fun K Z => ?_
 go_simp
 apply Z.out; clear Z K
 refine fp fun K Z => ?_
 go_simp
 apply Z.out; clear Z K
 refine fp fun K Z => ?_
 go_simp
 try rw [q1]
 apply Z.out; clear Z K
 refine Fact.z hf fun fr1 hf1 hT => ?_
 have hKp : _ ∧ _ ∧ _ ∧ _ ∧ _ ∧ _ := ⟨hT 3, hT 4, hT 7, hT 11, hT 13, hT 137⟩
 simp (decide := true) only [Fact.G, hf.size, reduceIte, s3, s4, s7, s11, s13] at hKp
 replace hf := hf1; clear hT hf1 s3 s4 s7 s11 s13 b132 b133 b134 b135 b136
 obtain ⟨s3, s4, s7, s11, s13, s137⟩ := hKp
 refine nx (hK46 _ _ ?_)
 refine Fact.cond_t s137 ?_
 clear q1
 refine Fact.sq fun K47 hK47 => ?_
 refine Stam.todo_begin (n := 146) (fun m k => (m = 6 ∧ k = w.heap.size) ∨ (m = 7 ∧ k = w.heap.size + 1)) [6, 7] (Stab.OkOps.of (by kernel_rfl)) (fun hok => ?_)
 apply Stam.tq 0 _ hf hok
 · (
 intro fr1 w1 hh hd hk K Z
 refine Stab.pl ?_
 have hxe := Stam.ext_at hh [(6, []), (7, [])] (by kernel_rfl)
 have hbt := Stam.but_at hh [] [(6, []), (7, [])] (by kernel_rfl)
 clear hd hh
 go_simp
 exact Stab.k Z)
 refine Stam.mvO (k := 1) s7 hf.size hok.out rfl (by kernel_rfl) rfl rfl (.inl rfl) (by kernel_rfl) ?_
 apply Stam.tq 2 _ hf hok
 · (
 intro fr1 w1 hh hd hk K Z
 refine Stab.pl ?_
 have s139 := Stam.v 1 0 hd hk []
 have hbt := Stam.but_at hh [6] [(7, [])] (by kernel_rfl)
 clear hd hh
 go_simp
 exact Stab.k Z)
 apply Stam.tq 3 _ hf hok
 · (
 intro fr1 w1 hh hd hk K Z
 refine Stab.pl ?_
 have s140 := Stam.v 2 0 hd hk []
 have hbt := Stam.but_at hh [6] [(7, [])] (by kernel_rfl)
 clear hd hh
 go_simp
 exact Stab.k Z)
 apply Stam.tq 4 _ hf hok
 · (
 intro fr1 w1 hh hd hk K Z
 refine Stab.pl ?_
 have s141 := Stam.v 3 0 hd hk []
 have hbt := Stam.but_at hh [6] [(7, [])] (by kernel_rfl)
 clear hd hh
 have h4 := hbt (fun k => k = w.heap.size) (fun m hm b h => by simp at hm; subst hm; rcases h with h | h; exact h.2; (have := h.1; omega))
 have d2 := h4.cell c2 (by simp only; omega); have d3 := h4.cell c3 (by simp only; omega)
 go_simp
 exact Stab.k Z)
 apply Stam.tq 5 _ hf hok
 · (
 intro fr1 w1 hh hd hk K Z
 refine Stab.pl ?_
 have hxe := Stam.ext_at hh [(6, []), (7, [])] (by kernel_rfl)
 have hbt := Stam.but_at hh [] [(6, []), (7, [])] (by kernel_rfl)
 clear hd hh
 go_simp
 exact Stab.k Z)
 refine Stam.todo_sp (k := 6) (n := 146) (fun _ wz => wz.heap[w.heap.size]? = some (.cells #[.slice none 0 0, .int .u64 0] 25 (0, 0)) ∧ wz.heap[w.heap.size + 1]? = some (.cells #[.int .i64 0, .int .i64 0] 53 (0, 0))) hf.size hok.out rfl (fun _ _ _ hb h => ⟨(hb.block _ (heap_lt h.1)).trans h.1, (hb.block _ (heap_lt h.2)).trans h.2⟩) (by kernel_rfl) ?_ ?_
 · (
 intro fr1 w1 hh hd hk K Z
 refine Stab.pl ?_
 have s3 := Stam.o hh (by kernel_rfl) s3
 have s138 := Stam.v 0 5 hd hk []
 have hxe := Stam.ext_at hh [(7, [])] (by kernel_rfl)
 have hbt := Stam.but_at hh [] [(7, [])] (by kernel_rfl)
 clear hd hh
 have k3 := (hxe.block _ (heap_lt hy3)).trans hy3; have k4 := (hxe.block _ (heap_lt hy4)).trans hy4
 have f30 := frozen_of (i := 0) k3; have f31 := frozen_of (i := 1) k3
 have z0 := cell_of_row _ _ 0 _ 25 (0, 0) k3; have z1 := cell_of_row _ _ 1 _ 25 (0, 0) k3
 simp at z0 z1
 go_simp
 exact Z.out _ rfl undef _ ((But.setCell (S := fun k => (6 = 6 ∧ k = w.heap.size) ∨ (6 = 7 ∧ k = w.heap.size + 1)) (p := ⟨w.heap.size, 0, none⟩) (.inl ⟨rfl, rfl⟩) _).trans (But.setCell (p := ⟨w.heap.size, 1, none⟩) (.inl ⟨rfl, rfl⟩) _)) ⟨set2 k3 _ _, set_other (set_other k4 (by omega)) (by omega)⟩)
 refine Stam.todo_sp (k := 7) (n := 146) (fun _ wz => wz.heap[w.heap.size]? = some (.cells #[.slice none 0 0, .int .u64 0] 25 (0, 0)) ∧ wz.heap[w.heap.size + 1]? = some (.cells #[.int .i64 b.1, .int .i64 b.2] 53 (0, 0))) hf.size hok.out rfl (fun _ _ _ hb h => ⟨(hb.block _ (heap_lt h.1)).trans h.1, (hb.block _ (heap_lt h.2)).trans h.2⟩) (by kernel_rfl) ?_ ?_
 · (
 intro fr1 w1 hh hd hk K Z
 refine Stab.pl ?_
 have s4 := Stam.o hh (by kernel_rfl) s4
 have s142 := Stam.v 4 2 hd hk []
 obtain ⟨_, hd6⟩ := Stam.use_fact (j := 6) (m := 0) hd hk rfl [] (by kernel_rfl) [] (by kernel_rfl) rfl
 have hbt := Stam.but_at hh [6] [] (by kernel_rfl)
 clear hd hh
 obtain ⟨k3, k4⟩ := hd6
 have f40 := frozen_of (i := 0) k4; have f41 := frozen_of (i := 1) k4
 have z0 := cell_of_row _ _ 0 _ 53 (0, 0) k4; have z1 := cell_of_row _ _ 1 _ 53 (0, 0) k4
 simp at z0 z1
 go_simp
 exact Z.out _ rfl undef _ ((But.setCell (S := fun k => (7 = 6 ∧ k = w.heap.size) ∨ (7 = 7 ∧ k = w.heap.size + 1)) (p := ⟨w.heap.size + 1, 0, none⟩) (.inr ⟨rfl, rfl⟩) _).trans (But.setCell (p := ⟨w.heap.size + 1, 1, none⟩) (.inr ⟨rfl, rfl⟩) _)) ⟨set_other (set_other k3 (by omega)) (by omega), set2 k4 _ _⟩)
 refine Stam.todo_facts (n := 146) (by kernel_rfl) hf.size hok.out rfl (fun fr1 w1 hh hg => ?_)
 have s2 := Stam.e 5 2 hg rfl rfl rfl rfl
 replace s3 := Stam.o hh (by kernel_rfl) s3
 replace s4 := Stam.o hh (by kernel_rfl) s4
 obtain ⟨_, hlast⟩ := Stam.end_fact (j := 7) (m := 0) hg rfl (by decide) [(6, [])] (by kernel_rfl) rfl
 have hf1 := hh.fr hf
 have hbt := hh.but
 clear hg hh hf hok s7 s11 s13 s137
 have hf := hf1; clear hf1
 refine nx (hK47 _ _ ?_)
 refine wp_ret ?_
 refine Fact.then_ret ?_
 obtain ⟨hpa2, hpb⟩ := hlast
 replace hbt := hbt (fun k => k = w.heap.size ∨ k = w.heap.size + 1) (fun m _ b h => h.elim (fun h => .inl h.2) (fun h => .inr h.2))
 rw [HAE.out]
 exact ret_tcc rfl hf s2 s3 s4 hpa2 hpb Tryd.underlying25 rfl Tryd.underlying53 rfl (by kernel_rfl) (by kernel_rfl) ⟨rfl, hb0, hb032.trans (hbt.below (B := w.heap.size) hb032.size (fun k h => by omega))⟩)
 · (
 have hge : ¬ i < bd.size := by have h9 := of_decide_eq_false hq; omega
 clear hq
 rcases s9_ with b | p
 · (
 have hae : pAll bd = .error b := HAL.out
 have HAE := Lib.hid hae; clear hae
 refine wp_skip ?_
 refine nx (hK43 _ _ ?_)
 have c2 := hin31.code.1; have c3 := hin31.code.2
 simp only [codeOf, placeOf] at c2 c3
 have hb0 := hin31.err
 have q1 : ((b.1 : Int) != 0) = true := by simp; omega
 refine Fact.sq fun K48 hK48 => ?_
 refine Fact.sq fun K49 hK49 => ?_
 refine rg ?_
 have b132 := hf.b 132
 have b133 := hf.b 133
 have b134 := hf.b 134
 have b135 := hf.b 135
 have b136 := hf.b 136
 refine fp fun K Z => ?_
 go_simp
 apply Z.out; clear Z K
 refine fp fun K Z => ?_
 go_simp
 apply Z.out; clear Z K
 refine fp fun K Z => ?_
 go_simp
 apply Z.out; clear Z K
 refine fp fun K Z => ?_
 go_simp
 apply Z.out; clear Z K
 refine fp fun K Z => ?_
 go_simp
 apply Z.out; clear Z K
 refine fp fun K Z => ?_
 go_simp
 try rw [q1]
 apply Z.out; clear Z K
 refine Fact.z hf fun fr1 hf1 hT => ?_
 have hKp : _ ∧ _ ∧ _ ∧ _ ∧ _ ∧ _ := ⟨hT 3, hT 4, hT 7, hT 11, hT 13, hT 137⟩
 simp (decide := true) only [Fact.G, hf.size, reduceIte, s3, s4, s7, s11, s13] at hKp
 replace hf := hf1; clear hT hf1 s3 s4 s7 s11 s13 s125 b132 b133 b134 b135 b136
 obtain ⟨s3, s4, s7, s11, s13, s137⟩ := hKp
 refine nx (hK49 _ _ ?_)
 refine Fact.cond_t s137 ?_
 clear q1
 refine Fact.sq fun K50 hK50 => ?_
 refine Stam.todo_begin (n := 146) (fun m k => (m = 6 ∧ k = w.heap.size) ∨ (m = 7 ∧ k = w.heap.size + 1)) [6, 7] (Stab.OkOps.of (by kernel_rfl)) (fun hok => ?_)
 apply Stam.tq 0 _ hf hok
 · (
 intro fr1 w1 hh hd hk K Z
 refine Stab.pl ?_
 have hxe := Stam.ext_at hh [(6, []), (7, [])] (by kernel_rfl)
 have hbt := Stam.but_at hh [] [(6, []), (7, [])] (by kernel_rfl)
 clear hd hh
 go_simp
 exact Stab.k Z)
 refine Stam.mvO (k := 1) s7 hf.size hok.out rfl (by kernel_rfl) rfl rfl (.inl rfl) (by kernel_rfl) ?_
 apply Stam.tq 2 _ hf hok
 · (
 intro fr1 w1 hh hd hk K Z
 refine Stab.pl ?_
 have s139 := Stam.v 1 0 hd hk []
 have hbt := Stam.but_at hh [6] [(7, [])] (by kernel_rfl)
 clear hd hh
 go_simp
 exact Stab.k Z)
 apply Stam.tq 3 _ hf hok
 · (
 intro fr1 w1 hh hd hk K Z
 refine Stab.pl ?_
 have s140 := Stam.v 2 0 hd hk []
 have hbt := Stam.but_at hh [6] [(7, [])] (by kernel_rfl)
 clear hd hh
 go_simp
 exact Stab.k Z)
 apply Stam.tq 4 _ hf hok
 · (
 intro fr1 w1 hh hd hk K Z
 refine Stab.pl ?_
 have s141 := Stam.v 3 0 hd hk []
 have hbt := Stam.but_at hh [6] [(7, [])] (by kernel_rfl)
 clear hd hh
 have h4 := hbt (fun k => k = w.heap.size) (fun m hm b h => by simp at hm; subst hm; rcases h with h | h; exact h.2; (have := h.1; omega))
 have d2 := h4.cell c2 (by simp only; omega); have d3 := h4.cell c3 (by simp only; omega)
 go_simp
 exact Stab.k Z)
 apply Stam.tq 5 _ hf hok
 · (
 intro fr1 w1 hh hd hk K Z
 refine Stab.pl ?_
 have hxe := Stam.ext_at hh [(6, []), (7, [])] (by kernel_rfl)
 have hbt := Stam.but_at hh [] [(6, []), (7, [])] (by kernel_rfl)
 clear hd hh
 go_simp
 exact Stab.k Z)
 refine Stam.todo_sp (k := 6) (n := 146) (fun _ wz => wz.heap[w.heap.size]? = some (.cells #[.slice none 0 0, .int .u64 0] 25 (0, 0)) ∧ wz.heap[w.heap.size + 1]? = some (.cells #[.int .i64 0, .int .i64 0] 53 (0, 0))) hf.size hok.out rfl (fun _ _ _ hb h => ⟨(hb.block _ (heap_lt h.1)).trans h.1, (hb.block _ (heap_lt h.2)).trans h.2⟩) (by kernel_rfl) ?_ ?_
 · (
 intro fr1 w1 hh hd hk K Z
 refine Stab.pl ?_
 have s3 := Stam.o hh (by kernel_rfl) s3
 have s138 := Stam.v 0 5 hd hk []
 have hxe := Stam.ext_at hh [(7, [])] (by kernel_rfl)
 have hbt := Stam.but_at hh [] [(7, [])] (by kernel_rfl)
 clear hd hh
 have k3 := (hxe.block _ (heap_lt hx3)).trans hx3; have k4 := (hxe.block _ (heap_lt hx4)).trans hx4
 have f30 := frozen_of (i := 0) k3; have f31 := frozen_of (i := 1) k3
 have z0 := cell_of_row _ _ 0 _ 25 (0, 0) k3; have z1 := cell_of_row _ _ 1 _ 25 (0, 0) k3
 simp at z0 z1
 go_simp
 exact Z.out _ rfl undef _ ((But.setCell (S := fun k => (6 = 6 ∧ k = w.heap.size) ∨ (6 = 7 ∧ k = w.heap.size + 1)) (p := ⟨w.heap.size, 0, none⟩) (.inl ⟨rfl, rfl⟩) _).trans (But.setCell (p := ⟨w.heap.size, 1, none⟩) (.inl ⟨rfl, rfl⟩) _)) ⟨set2 k3 _ _, set_other (set_other k4 (by omega)) (by omega)⟩)
 refine Stam.todo_sp (k := 7) (n := 146) (fun _ wz => wz.heap[w.heap.size]? = some (.cells #[.slice none 0 0, .int .u64 0] 25 (0, 0)) ∧ wz.heap[w.heap.size + 1]? = some (.cells #[.int .i64 b.1, .int .i64 b.2] 53 (0, 0))) hf.size hok.out rfl (fun _ _ _ hb h => ⟨(hb.block _ (heap_lt h.1)).trans h.1, (hb.block _ (heap_lt h.2)).trans h.2⟩) (by kernel_rfl) ?_ ?_
 · (
 intro fr1 w1 hh hd hk K Z
 refine Stab.pl ?_
 have s4 := Stam.o hh (by kernel_rfl) s4
 have s142 := Stam.v 4 2 hd hk []
 obtain ⟨_, hd6⟩ := Stam.use_fact (j := 6) (m := 0) hd hk rfl [] (by kernel_rfl) [] (by kernel_rfl) rfl
 have hbt := Stam.but_at hh [6] [] (by kernel_rfl)
 clear hd hh
 obtain ⟨k3, k4⟩ := hd6
 have f40 := frozen_of (i := 0) k4; have f41 := frozen_of (i := 1) k4
 have z0 := cell_of_row _ _ 0 _ 53 (0, 0) k4; have z1 := cell_of_row _ _ 1 _ 53 (0, 0) k4
 simp at z0 z1
 go_simp
 exact Z.out _ rfl undef _ ((But.setCell (S := fun k => (7 = 6 ∧ k = w.heap.size) ∨ (7 = 7 ∧ k = w.heap.size + 1)) (p := ⟨w.heap.size + 1, 0, none⟩) (.inr ⟨rfl, rfl⟩) _).trans (But.setCell (p := ⟨w.heap.size + 1, 1, none⟩) (.inr ⟨rfl, rfl⟩) _)) ⟨set_other (set_other k3 (by omega)) (by omega), set2 k4 _ _⟩)
 refine Stam.todo_facts (n := 146) (by kernel_rfl) hf.size hok.out rfl (fun fr1 w1 hh hg => ?_)
 have s2 := Stam.e 5 2 hg rfl rfl rfl rfl
 replace s3 := Stam.o hh (by kernel_rfl) s3
 replace s4 := Stam.o hh (by kernel_rfl) s4
 obtain ⟨_, hlast⟩ := Stam.end_fact (j := 7) (m := 0) hg rfl (by decide) [(6, [])] (by kernel_rfl) rfl
 have hf1 := hh.fr hf
 have hbt := hh.but
 clear hg hh hf hok s7 s11 s13 s137
 have hf := hf1; clear hf1
 refine nx (hK50 _ _ ?_)
 refine wp_ret ?_
 refine Fact.then_ret ?_
 obtain ⟨hpa2, hpb⟩ := hlast
 replace hbt := hbt (fun k => k = w.heap.size ∨ k = w.heap.size + 1) (fun m _ b h => h.elim (fun h => .inl h.2) (fun h => .inr h.2))
 rw [HAE.out]
 exact ret_tcc rfl hf s2 s3 s4 hpa2 hpb Tryd.underlying25 rfl Tryd.underlying53 rfl (by kernel_rfl) (by kernel_rfl) ⟨rfl, hb0, hb031.trans (hbt.below (B := w.heap.size) hb031.size (fun k h => by omega))⟩)
 · (
 have hae : pAll bd = .ok (en, init, l.map Prod.snd) := by rw [HAL.out]; have := hie p rfl; exact if_neg (by omega)
 have HAE := Lib.hid hae; clear hae
 have c2 := hin31.code.1
 simp only [codeOf] at c2
 refine wp_skip ?_
 refine nx (hK43 _ _ ?_)
 refine Fact.sq fun K51 hK51 => ?_
 refine Fact.sq fun K52 hK52 => ?_
 refine rg ?_
 have b132 := hf.b 132
 have b133 := hf.b 133
 have b134 := hf.b 134
 have b135 := hf.b 135
 have b136 := hf.b 136
 refine fp fun K Z => ?_
 go_simp
 apply Z.out; clear Z K
 refine fp fun K Z => ?_
 go_simp
 apply Z.out; clear Z K
 refine fp fun K Z => ?_
 go_simp
 apply Z.out; clear Z K
 refine fp fun K Z => ?_
 go_simp
 apply Z.out; clear Z K
 refine fp fun K Z => ?_
 go_simp
 apply Z.out; clear Z K
 refine fp fun K Z => ?_
 go_simp
 apply Z.out; clear Z K
 refine Fact.z hf fun fr1 hf1 hT => ?_
 have hKp : _ ∧ _ ∧ _ ∧ _ ∧ _ ∧ _ := ⟨hT 3, hT 4, hT 7, hT 11, hT 13, hT 137⟩
 simp (decide := true) only [Fact.G, hf.size, reduceIte, s3, s4, s7, s11, s13] at hKp
 replace hf := hf1; clear hT hf1 s3 s4 s7 s11 s13 s125 b132 b133 b134 b135 b136
 obtain ⟨s3, s4, s7, s11, s13, s137⟩ := hKp
 refine nx (hK52 _ _ ?_)
 refine Fact.cond_f s137 ?_
 obtain ⟨Av, cv, hv9, hcv⟩ := hsr31.form
 subst hv9
 have d0 := cell_of_row _ _ 0 _ 25 (0, 0) hpf31; have d1 := cell_of_row _ _ 1 _ 25 (0, 0) hpf31
 simp at d0 d1
 refine wp_skip ?_
 refine nx (hK51 _ _ ?_)
 refine Fact.sq fun K53 hK53 => ?_
 refine Stam.todo_begin (n := 146) (fun m k => (m = 4 ∧ k = w.heap.size) ∨ (m = 5 ∧ k = w.heap.size + 1)) [4, 5] (Stab.OkOps.of (by kernel_rfl)) (fun hok => ?_)
 refine Stam.mvO (k := 0) s11 hf.size hok.out rfl (by kernel_rfl) rfl rfl (.inl rfl) (by kernel_rfl) ?_
 apply Stam.tq 1 _ hf hok
 · (
 intro fr1 w1 hh hd hk K Z
 refine Stab.pl ?_
 have s13 := Stam.o hh (by kernel_rfl) s13
 have hxe := Stam.ext_at hh [(4, []), (5, [])] (by kernel_rfl)
 have hbt := Stam.but_at hh [] [(4, []), (5, [])] (by kernel_rfl)
 clear hd hh
 have d0b := cL hxe d0; have d1b := cL hxe d1
 go_simp
 exact Stab.k Z)
 apply Stam.tq 2 _ hf hok
 · (
 intro fr1 w1 hh hd hk K Z
 refine Stab.pl ?_
 have hbt := Stam.but_at hh [4] [(5, [])] (by kernel_rfl)
 clear hd hh
 go_simp
 exact Stab.k Z)
 refine Stam.mvN (k := 3) (j := 0) (m := 2) hf.size hok.out rfl (by kernel_rfl) rfl rfl (.inr rfl) rfl [] (by kernel_rfl) rfl rfl rfl ?_
 refine Stam.todo_sp (k := 4) (n := 146) (fun _ wz => wz.heap[w.heap.size]? = some (.cells #[.slice Av l.length cv, .int .u64 init] 25 (0, 0)) ∧ wz.heap[w.heap.size + 1]? = some (.cells #[.int .i64 0, .int .i64 0] 53 (0, 0))) hf.size hok.out rfl (fun _ _ _ hb h => ⟨(hb.block _ (heap_lt h.1)).trans h.1, (hb.block _ (heap_lt h.2)).trans h.2⟩) (by kernel_rfl) ?_ ?_
 · (
 intro fr1 w1 hh hd hk K Z
 refine Stab.pl ?_
 have s3 := Stam.o hh (by kernel_rfl) s3
 have s144 := Stam.v 1 2 hd hk []
 have hxe := Stam.ext_at hh [(5, [])] (by kernel_rfl)
 have hbt := Stam.but_at hh [] [(5, [])] (by kernel_rfl)
 clear hd hh
 have k3 := (hxe.block _ (heap_lt hx3)).trans hx3; have k4 := (hxe.block _ (heap_lt hx4)).trans hx4
 have f30 := frozen_of (i := 0) k3; have f31 := frozen_of (i := 1) k3
 have z0 := cell_of_row _ _ 0 _ 25 (0, 0) k3; have z1 := cell_of_row _ _ 1 _ 25 (0, 0) k3
 simp at z0 z1
 go_simp
 exact Z.out _ rfl undef _ ((But.setCell (S := fun k => (4 = 4 ∧ k = w.heap.size) ∨ (4 = 5 ∧ k = w.heap.size + 1)) (p := ⟨w.heap.size, 0, none⟩) (.inl ⟨rfl, rfl⟩) _).trans (But.setCell (p := ⟨w.heap.size, 1, none⟩) (.inl ⟨rfl, rfl⟩) _)) ⟨set2 k3 _ _, set_other (set_other k4 (by omega)) (by omega)⟩)
 refine Stam.todo_sp (k := 5) (n := 146) (fun _ wz => wz.heap[w.heap.size]? = some (.cells #[.slice Av l.length cv, .int .u64 init] 25 (0, 0)) ∧ wz.heap[w.heap.size + 1]? = some (.cells #[.int .i64 0, .int .i64 0] 53 (0, 0))) hf.size hok.out rfl (fun _ _ _ hb h => ⟨(hb.block _ (heap_lt h.1)).trans h.1, (hb.block _ (heap_lt h.2)).trans h.2⟩) (by kernel_rfl) ?_ ?_
 · (
 intro fr1 w1 hh hd hk K Z
 refine Stab.pl ?_
 have s4 := Stam.o hh (by kernel_rfl) s4
 have s145 := Stam.v 2 2 hd hk []
 obtain ⟨_, hd4⟩ := Stam.use_fact (j := 4) (m := 0) hd hk rfl [] (by kernel_rfl) [] (by kernel_rfl) rfl
 have hbt := Stam.but_at hh [4] [] (by kernel_rfl)
 clear hd hh
 obtain ⟨k3, k4⟩ := hd4
 have f40 := frozen_of (i := 0) k4; have f41 := frozen_of (i := 1) k4
 have z0 := cell_of_row _ _ 0 _ 53 (0, 0) k4; have z1 := cell_of_row _ _ 1 _ 53 (0, 0) k4
 simp at z0 z1
 go_simp
 exact Z.out _ rfl undef _ ((But.setCell (S := fun k => (5 = 4 ∧ k = w.heap.size) ∨ (5 = 5 ∧ k = w.heap.size + 1)) (p := ⟨w.heap.size + 1, 0, none⟩) (.inr ⟨rfl, rfl⟩) _).trans (But.setCell (p := ⟨w.heap.size + 1, 1, none⟩) (.inr ⟨rfl, rfl⟩) _)) ⟨set_other (set_other k3 (by omega)) (by omega), set2 k4 _ _⟩)
 refine Stam.todo_facts (n := 146) (by kernel_rfl) hf.size hok.out rfl (fun fr1 w1 hh hg => ?_)
 have s2 := Stam.e 3 2 hg rfl rfl rfl rfl
 replace s3 := Stam.o hh (by kernel_rfl) s3
 replace s4 := Stam.o hh (by kernel_rfl) s4
 obtain ⟨_, hlast⟩ := Stam.end_fact (j := 5) (m := 0) hg rfl (by decide) [(4, [])] (by kernel_rfl) rfl
 have hf1 := hh.fr hf
 have hbt := hh.but
 clear hg hh hf hok s7 s11 s13 s137
 have hf := hf1; clear hf1
 refine nx (hK53 _ _ ?_)
 refine wp_ret ?_
 obtain ⟨hpa2, hpb⟩ := hlast
 replace hbt := hbt (fun k => k = w.heap.size ∨ k = w.heap.size + 1) (fun m _ b h => h.elim (fun h => .inl h.2) (fun h => .inr h.2))
 rw [HAE.out]
 exact ret_tcc rfl hf s2 s3 s4 hpa2 hpb Tryd.underlying25 rfl Tryd.underlying53 rfl (by kernel_rfl) (by kernel_rfl) ⟨_, rfl, (hsr31.but hbt (fun k hk h => by have := HVB.out k hk; omega) (fun k hk h => by have := (HC.out k hk).1; omega)).rs, hb031.trans (hbt.below (B := w.heap.size) hb031.size (fun k h => by omega))⟩))))))
end Dw
end Go.Proofs.YtdkbgbdgmihlmaaDoor
