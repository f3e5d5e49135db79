/- crc: More, Sum. -/
import Derived.Test.YtdkbgbdgmihlmaaGreatDoorPBy
import Derived.Test.YtdkbgbdgmihlmaaGreatDoorTools
namespace Go.Proofs.YtdkbgbdgmihlmaaGreatDoor
open Go.RowKit
set_option linter.unusedSimpArgs false
set_option linter.unusedVariables false
set_option linter.unnecessarySimpa false
namespace Dw

theorem xor_ones {n : Nat} (h : n < 4294967296) : 4294967295 ^^^ n = 4294967295 - n := by
  have h1 : (BitVec.allOnes 32 ^^^ BitVec.ofNat 32 n).toNat = 4294967295 ^^^ n := by
    rw [BitVec.toNat_xor, BitVec.toNat_allOnes, BitVec.toNat_ofNat, Nat.mod_eq_of_lt h]
  have h2 : (~~~ (BitVec.ofNat 32 n)).toNat = 4294967295 - n := by
    rw [BitVec.toNat_not, BitVec.toNat_ofNat, Nat.mod_eq_of_lt h]
  rw [← h1, ← h2, BitVec.allOnes_xor]
theorem not32 {n : Nat} (h : n < 4294967296) : bits .xor .u32 (if IntKind.u32.signed = true then -1 else IntKind.u32.max) (n : Int) = ((4294967295 - n : Nat) : Int) := by
  have e : (if IntKind.u32.signed = true then (-1 : Int) else IntKind.u32.max) = ((4294967295 : Nat) : Int) := rfl
  rw [e, u32_xor_nat 4294967295 n (by decide) h, xor_ones h]
/-- a row of two bytes -/
def PB2 (x y : Nat) : Stab.Pr := fun v w => ∃ b, v = .slice (some ⟨b, 0, none⟩) 2 2 ∧ ∀ (i q : Nat), ([x, y] : List Nat)[i]? = some q → w.cell? ⟨b, i, none⟩ = some (.int .u8 q)
theorem PB2.stable (x y : Nat) : Stab.Stable (PB2 x y) := fun v w w' hb ⟨b, h1, h2⟩ => ⟨b, h1, fun i q h => cL hb (h2 i q h)⟩
theorem PB2.new (w : World) (x y : Nat) (t : TypeId) : PB2 x y (.slice (some ⟨w.heap.size, 0, none⟩) 2 2) (w.alloc (.cells #[.int .u8 x, .int .u8 y] t)) := ⟨_, rfl, fun i q h => by
  rw [cell_of_row _ _ i _ t (0, 0) (heap_alloc_new w _)]
  rcases i with _ | _ | i
  · injection h with h; rw [← h]; rfl
  · injection h with h; rw [← h]; rfl
  · simp at h⟩
set_option maxHeartbeats 4000000 in
set_option maxRecDepth 100000 in
theorem more53 (w : World) (n : Nat) (hn : n < 4294967296) (s : ByteArray) (hsz : s.size ≤ 1000000000) : Calls Tryz.prog 51 #[.int .u32 n, .string s] w fun e w1 => e = .returned (.int .u32 (4294967295 - Crc.run (4294967295 - n) (wl s) : Nat)) ∧ Below w.heap.size w w1 := by
 refine calls_of_wp Tryz.func51 rfl ?_
 refine Fact.en 31 fun fr hf hT => ?_
 have s0 := hT 0 _ rfl
 have s1 := hT 1 _ rfl
 clear hT
 have hat2 : ∀ (i : Nat) (h : i < s.size), s[i].toNat = at_ s i := fun i h => (at_get h).symm
 refine Fact.sq fun K1 hK1 => ?_
 refine rg ?_
 refine fp fun K Z => ?_
 go_simp
 apply Z.out; clear Z K
 refine Fact.z hf fun fr1 hf1 hT => ?_
 have hKp : _ ∧ _ := ⟨hT 0, hT 1⟩
 simp (decide := true) only [Fact.G, reduceIte, s0, s1] at hKp
 replace hf := hf1; clear hT hf1 s0 s1
 obtain ⟨s0, s1⟩ := hKp
 refine nx (hK1 _ _ ?_)
 refine Fact.sq fun K2 hK2 => ?_
 refine rg ?_
 have b8 := hf.b 8
 have b5 := hf.b 5
 refine fp fun K Z => ?_
 go_simp
 go_at_call 74; refine (steps75 w).mono ?_; rintro e W0 ⟨rfl, hb0⟩
 try dsimp only
 apply Z.out; clear Z K
 refine fp fun K Z => ?_
 go_simp
 apply Z.out; clear Z K
 refine Fact.reL (n := 31) (by simp only [Fact.G, hf.size]) hf.defers (fun fr1 hf1 hT => ?_)
 have hKp : _ ∧ _ ∧ _ ∧ _ := ⟨hT 0, hT 1, hT 5, hT 8⟩
 simp (decide := true) only [Fact.G, hf.size, reduceIte, s0, s1] at hKp
 replace hf := hf1; clear hT hf1 s0 s1 b8 b5
 obtain ⟨s0, s1, s5, s8⟩ := hKp
 refine ⟨?_⟩
 refine wpList_plain rfl fun KL hKL => ?_
 refine wp_store_row 162 _ _ rfl W0.heap.size _ (Fact.eval_tmp s5) (Fact.eval_tmp s8) 162 _ (heap_alloc_new W0 _) (by kernel_rfl) rfl (by kernel_rfl) (hKL _ _ ?_)
 rw [World.setRow_alloc_new]
 refine Fact.L.out ?_
 refine Fact.z hf fun fr1 hf1 hT => ?_
 have hKp : _ ∧ _ ∧ _ := ⟨hT 0, hT 1, hT 5⟩
 simp (decide := true) only [Fact.G, reduceIte, s0, s1, s5] at hKp
 replace hf := hf1; clear hT hf1 s0 s1 s5 s8
 obtain ⟨s0, s1, s5⟩ := hKp
 obtain ⟨W1, hW1⟩ : ∃ x, W0.alloc (.cells #[.int .u32 0, .int .u32 498536548, .int .u32 997073096, .int .u32 651767980, .int .u32 1994146192, .int .u32 1802195444, .int .u32 1303535960, .int .u32 1342533948, .int .u32 3988292384, .int .u32 4027552580, .int .u32 3604390888, .int .u32 3412177804, .int .u32 2607071920, .int .u32 2262029012, .int .u32 2685067896, .int .u32 3183342108] 162) = x := ⟨_, rfl⟩
 rw [hW1]
 have hx1 : W1.heap[W0.heap.size]? = some (.cells #[.int .u32 0, .int .u32 498536548, .int .u32 997073096, .int .u32 651767980, .int .u32 1994146192, .int .u32 1802195444, .int .u32 1303535960, .int .u32 1342533948, .int .u32 3988292384, .int .u32 4027552580, .int .u32 3604390888, .int .u32 3412177804, .int .u32 2607071920, .int .u32 2262029012, .int .u32 2685067896, .int .u32 3183342108] 162 (0, 0)) := by rw [← hW1]; exact heap_alloc_new W0 _
 have hb1 : Below w.heap.size w W1 := hb0.trans (by rw [← hW1]; exact (Below.refl _ _).alloc hb0.size _)
 have HX1 := Lib.hid hx1; clear hW1 hb0 hx1
 refine nx (hK2 _ _ ?_)
 refine Fact.sq fun K3 hK3 => ?_
 refine rg ?_
 have b9 := hf.b 9
 have b10 := hf.b 10
 refine fp fun K Z => ?_
 go_simp
 apply Z.out; clear Z K
 refine fp fun K Z => ?_
 go_simp
 rw [not32 hn]
 apply Z.out; clear Z K
 refine fp fun K Z => ?_
 go_simp
 apply Z.out; clear Z K
 refine Fact.z hf fun fr1 hf1 hT => ?_
 have hKp : _ ∧ _ ∧ _ := ⟨hT 1, hT 5, hT 6⟩
 simp (decide := true) only [Fact.G, hf.size, reduceIte, s1, s5] at hKp
 replace hf := hf1; clear hT hf1 s0 s1 s5 b9 b10
 obtain ⟨s1, s5, s6⟩ := hKp
 refine nx (hK3 _ _ ?_)
 refine Fact.sq fun K4 hK4 => ?_
 refine Fact.sq fun K5 hK5 => ?_
 refine rg ?_
 have b11 := hf.b 11
 iterate 3 (refine fp fun K Z => ?_; go_simp; apply Z.out; clear Z K)
 refine Fact.z hf fun fr1 hf1 hT => ?_
 have hKp : _ ∧ _ ∧ _ ∧ _ ∧ _ := ⟨hT 1, hT 5, hT 6, hT 12, hT 13⟩
 simp (decide := true) only [Fact.G, hf.size, reduceIte, s1, s5, s6] at hKp
 replace hf := hf1; clear hT hf1 s1 s5 s6 b11
 obtain ⟨s1, s5, s6, s12, s13⟩ := hKp
 refine nx (hK5 _ _ ?_)
 refine wp_block ?_
 refine wp_loop_ghost (fun gk fr wr => ∃ (i m : Nat), gk = s.size - i ∧ i ≤ s.size ∧ Fact.Fr 31 fr ∧ fr.tmps[1]? = some (.string s) ∧ fr.tmps[5]? = some (.pointer (some ⟨W0.heap.size, 0, none⟩)) ∧ fr.tmps[6]? = some (.int .u32 m) ∧ fr.tmps[12]? = some (.int .i64 s.size) ∧ fr.tmps[13]? = some (.int .i64 i) ∧ m = Crc.run (4294967295 - n) ((wl s).take i) ∧ m < 4294967296 ∧ Below W1.heap.size W1 wr) (s.size) ?_ ?_
 · (
 exact ⟨0, _, rfl, Nat.zero_le _, hf, s1, s5, s6, s12, s13, rfl, by omega, Below.refl _ _⟩)
 · (
 clear hf s1 s5 s6 s12 s13
 rintro gk fr wr ⟨i, m, hk, hi, hf, s1, s5, s6, s12, s13, hm, hm32, hb⟩
 have HK := Lib.hid hk; have HM := Lib.hid hm; clear hk hm
 refine Fact.sq fun K6 hK6 => ?_
 refine rg ?_
 refine fp fun K Z => ?_
 go_simp
 apply Z.out; clear Z K
 refine Fact.z hf fun fr1 hf1 hT => ?_
 have hKp : _ ∧ _ ∧ _ ∧ _ ∧ _ ∧ _ := ⟨hT 1, hT 5, hT 6, hT 12, hT 13, hT 14⟩
 simp (decide := true) only [Fact.G, hf.size, reduceIte, s1, s5, s6, s12, s13] at hKp
 replace hf := hf1; clear hT hf1 s1 s5 s6 s12 s13
 obtain ⟨s1, s5, s6, s12, s13, s14⟩ := hKp
 refine nx (hK6 _ _ ?_)
 refine Fact.sq fun K7 hK7 => ?_
 refine Fact.cond_s s14 (fun hq => ?_) (fun hq => ?_)
 · (
 have hlt : i < s.size := by have h9 := of_decide_eq_true hq; omega
 clear hq
 obtain ⟨c, hc⟩ : ∃ c, at_ s i = c := ⟨_, rfl⟩
 have hc8 : c < 256 := by rw [← hc]; exact at_lt s i
 have hst : Crc.run (4294967295 - n) ((wl s).take (i + 1)) = Crc.nib (Crc.nib m (c % 16)) (c / 16) := by rw [List.take_add_one, wl_at hlt, Option.toList_some, hc]; unfold Crc.run at *; rw [List.foldl_append, ← HM.out]; exact Crc.byte_nib m c hc8
 obtain ⟨m2, hm2⟩ : ∃ x, Crc.nib (Crc.nib m (c % 16)) (c / 16) = x := ⟨_, rfl⟩
 rw [hm2] at hst
 have hm232 : m2 < 4294967296 := by rw [← hm2]; exact Crc.nib_lt _ _ (Crc.nib_lt _ _ hm32 (by omega)) (by omega)
 obtain ⟨x, hx⟩ : ∃ x, c % 16 = x := ⟨_, rfl⟩
 obtain ⟨y, hy⟩ : ∃ y, c / 16 = y := ⟨_, rfl⟩
 have hxy : x < 16 ∧ y < 16 := by omega
 have hfold : ([x, y] : List Nat).foldl Crc.nib m = m2 := by rw [← hm2, hx, hy]; rfl
 have hand : c &&& 15 = x := by rw [← hx, ← and15, Nat.mod_eq_of_lt hc8]
 have hsm : ∀ q ∈ ([x, y] : List Nat), q < 16 := by intro q hq; simp at hq; rcases hq with rfl | rfl <;> omega
 have HC := Lib.hid hc; have HX := Lib.hid hx; have HY := Lib.hid hy; have HF := Lib.hid hfold; have HA := Lib.hid hand; have HSM := Lib.hid hsm; have HST := Lib.hid hst; clear hc hx hy hfold hand hsm hst hm2
 have hxr := (hb.block _ (heap_lt HX1.out)).trans HX1.out
 have HXR := Lib.hid hxr; clear hxr
 refine wp_skip ?_
 refine nx (hK7 _ _ ?_)
 refine Fact.sq fun K8 hK8 => ?_
 refine wp_block ?_
 refine Fact.sq fun K9 hK9 => ?_
 refine rg ?_
 have b15 := hf.b 15
 iterate 2 (refine fp fun K Z => ?_; go_simp; apply Z.out; clear Z K)
 refine Fact.z hf fun fr1 hf1 hT => ?_
 have hKp : _ ∧ _ ∧ _ ∧ _ ∧ _ ∧ _ := ⟨hT 1, hT 5, hT 6, hT 7, hT 12, hT 13⟩
 simp (decide := true) only [Fact.G, hf.size, reduceIte, s1, s5, s6, s12, s13] at hKp
 replace hf := hf1; clear hT hf1 s1 s5 s6 s12 s13 s14 b15
 obtain ⟨s1, s5, s6, s7, s12, s13⟩ := hKp
 refine nx (hK9 _ _ ?_)
 refine Stab.tb 31 fun hok => ?_
 apply Stab.tq 0 _ hf hok
 · (
 intro fr1 w1 hh hd hk K Z
 have s5 := Stab.O hh s5
 clear hd
 exact wp_load_row 162 _ rfl W0.heap.size (Fact.eval_tmp s5) 162 _ (0, 0) _ ((hh.ext.block _ (heap_lt HXR.out)).trans HXR.out) Tryz.underlying162 rfl (by kernel_rfl) (Z.out _ rfl _ _ (Below.refl _ _) rfl))
 refine Stab.mvP (k := 1) (j := 12) s6 hf.size hok.out rfl rfl rfl (.inl rfl) [] (by kernel_rfl) (by kernel_rfl) ?_
 refine Stab.mO 2 s1 hf hok ?_
 refine Stab.mO 3 s7 hf hok ?_
 apply Stab.tq 4 _ hf hok
 · (
 intro fr1 w1 hh hd hk K Z
 have s18 := Stab.v 2 1 hd hk []
 have s19 := Stab.v 3 0 hd hk []
 clear hd
 go_simp
 try rw [HC.out]
 exact Stab.k Z)
 apply Stab.tq 5 _ hf hok
 · (
 intro fr1 w1 hh hd hk K Z
 have s20 := Stab.v 4 0 hd hk []
 clear hd
 go_simp
 rw [show (15 : Int) = ((15 : Nat) : Int) from rfl, u8_and_nat c 15 hc8 (by decide), HA.out]
 exact Stab.k Z)
 refine Stab.mO 6 s1 hf hok ?_
 refine Stab.mO 7 s7 hf hok ?_
 apply Stab.tq 8 _ hf hok
 · (
 intro fr1 w1 hh hd hk K Z
 have s22 := Stab.v 6 1 hd hk []
 have s23 := Stab.v 7 0 hd hk []
 clear hd
 go_simp
 try rw [HC.out]
 exact Stab.k Z)
 apply Stab.tq 9 _ hf hok
 · (
 intro fr1 w1 hh hd hk K Z
 have s24 := Stab.v 8 0 hd hk []
 clear hd
 go_simp
 rw [show (c : Int) / 16 = ((c / 16 : Nat) : Int) by omega, HY.out]
 exact Stab.k Z)
 refine Stab.todo_op (k := 10) (n := 31) (PB2 x y) hf.size hok.out rfl (PB2.stable x y) ?_ ?_
 · (
 intro fr1 w1 hh hd hk K Z
 refine Stab.pl ?_
 have s21 := Stab.v 5 4 hd hk []
 have s25 := Stab.v 9 0 hd hk []
 clear hd
 go_simp
 exact Z.out _ rfl _ _ ((Below.refl _ _).alloc (Nat.le_refl _) _) (PB2.new _ _ _ _))
 apply Stab.tq 11 _ hf hok
 · (
 intro fr1 w1 hh hd hk K Z
 have s16 := Stab.v 0 10 hd hk []
 have s17 := Stab.v 1 9 hd hk []
 obtain ⟨x26, s26, hp26⟩ := Stab.use (j := 10) (m := 0) hd hk rfl [] (by kernel_rfl) rfl rfl rfl
 obtain ⟨b26, rfl, hc26⟩ := hp26
 clear hd
 go_simp
 go_at_call 75; refine (by76 w1 m hm32 [x, y] (by simp) b26 2 hc26 HSM.out).mono ?_; rintro e w2 ⟨rfl, hb⟩
 rw [HF.out]
 exact Z.out _ rfl _ _ hb rfl)
 refine Stab.mN 12 11 0 hf hok [] ?_
 refine Stab.tf hf hok fun fr1 w1 hh hg => ?_
 replace s1 := Stab.O hh s1
 replace s5 := Stab.O hh s5
 clear s6; have s6 := Stab.f 12 0 hg
 replace s12 := Stab.O hh s12
 replace s13 := Stab.O hh s13
 have hf1 := hh.fr hf
 have hx := hh.ext
 clear hg hh hf hok s7
 have hf := hf1; clear hf1
 refine Fact.block_normal ?_
 refine nx (hK8 _ _ ?_)
 refine rg ?_
 have b28 := hf.b 28
 refine fp fun K Z => ?_
 go_simp
 try simp (disch := omega) only [Fact.W]
 apply Z.out; clear Z K
 refine fp fun K Z => ?_
 go_simp
 apply Z.out; clear Z K
 refine Fact.z hf fun fr1 hf1 hT => ?_
 have hKp : _ ∧ _ ∧ _ ∧ _ ∧ _ := ⟨hT 1, hT 5, hT 6, hT 12, hT 13⟩
 simp (decide := true) only [Fact.G, hf.size, reduceIte, s1, s5, s6, s12] at hKp
 replace hf := hf1; clear hT hf1 s1 s5 s6 s12 s13 b28
 obtain ⟨s1, s5, s6, s12, s13⟩ := hKp
 refine Fact.then_normal ?_
 exact ⟨_, by have := HK.out; omega, i + 1, m2, rfl, by omega, hf, s1, s5, s6, s12, by rw [s13]; rfl, HST.out.symm, hm232, hb.trans (hx.mono hb.size)⟩)
 · (
 have hie : i = s.size := by have h9 := of_decide_eq_false hq; omega
 have hme : m = Crc.run (4294967295 - n) (wl s) := by have h9 := HM.out; rwa [hie, List.take_of_length_le (by rw [wl_length]; omega)] at h9
 have HME := Lib.hid hme; clear hme hie hq
 refine wp_exit ?_
 refine Fact.then_exit ?_
 refine Fact.then_exit ?_
 refine Fact.block_exit ?_
 refine nx (hK4 _ _ ?_)
 refine Fact.sq fun K10 hK10 => ?_
 refine rg ?_
 have b29 := hf.b 29
 have b30 := hf.b 30
 refine fp fun K Z => ?_
 go_simp
 apply Z.out; clear Z K
 refine fp fun K Z => ?_
 go_simp
 rw [not32 hm32]
 apply Z.out; clear Z K
 refine fp fun K Z => ?_
 go_simp
 apply Z.out; clear Z K
 refine Fact.z hf fun fr1 hf1 hT => ?_
 have hKp := hT 4
 simp (decide := true) only [Fact.G, hf.size, reduceIte] at hKp
 replace hf := hf1; clear hT hf1 s1 s5 s6 s12 s13 s14 b29 b30
 have s4 := hKp; clear hKp
 refine nx (hK10 _ _ ?_)
 refine wp_ret ?_
 exact Fact.ret1 rfl hf s4 ⟨by rw [HME.out], hb1.trans (hb.mono hb1.size)⟩))
set_option maxHeartbeats 4000000 in
set_option maxRecDepth 100000 in
theorem sum36 (w : World) (s : ByteArray) (hsz : s.size ≤ 1000000000) : Calls Tryz.prog 37 #[.string s] w fun e w1 => e = .returned (.int .u32 (Crc.sum (wl s) : Nat)) ∧ Below w.heap.size w w1 := by
 refine calls_of_wp Tryz.func37 rfl ?_
 refine Fact.en 5 fun fr hf hT => ?_
 have s0 := hT 0 _ rfl
 clear hT
 refine Fact.sq fun K1 hK1 => ?_
 refine rg ?_
 refine fp fun K Z => ?_
 go_simp
 apply Z.out; clear Z K
 refine Fact.z hf fun fr1 hf1 hT => ?_
 have hKp := hT 0
 simp (decide := true) only [Fact.G, reduceIte, s0] at hKp
 replace hf := hf1; clear hT hf1 s0
 have s0 := hKp; clear hKp
 refine nx (hK1 _ _ ?_)
 refine Fact.sq fun K2 hK2 => ?_
 refine rg ?_
 have b3 := hf.b 3
 have b4 := hf.b 4
 refine fp fun K Z => ?_
 go_simp
 apply Z.out; clear Z K
 refine fp fun K Z => ?_
 go_simp
 go_at_call 51; refine (more53 w 0 (by decide) s hsz).mono ?_; rintro e w1 ⟨rfl, hb1⟩
 try dsimp only
 apply Z.out; clear Z K
 refine fp fun K Z => ?_
 go_simp
 apply Z.out; clear Z K
 refine Fact.z hf fun fr1 hf1 hT => ?_
 have hKp := hT 2
 simp (decide := true) only [Fact.G, hf.size, reduceIte] at hKp
 replace hf := hf1; clear hT hf1 s0 b3 b4
 have s2 := hKp; clear hKp
 refine nx (hK2 _ _ ?_)
 refine wp_ret ?_
 exact Fact.ret1 rfl hf s2 ⟨rfl, hb1⟩
end Dw
end Go.Proofs.YtdkbgbdgmihlmaaGreatDoor

namespace Go.Proofs.YtdkbgbdgmihlmaaGreatDoor
open Go.RowKit
set_option linter.unusedSimpArgs false
set_option linter.unusedVariables false
set_option linter.unnecessarySimpa false
namespace Dw

theorem wp_conv {o : Oper} {a : Act} {w : World} {K : Act → World → Prop} {Q : Exit → Act → World → Prop} (x : Operand) (s : ByteArray) (ho : o.op = .convert 9 23 x) (hx : a.eval x = .string s) (hs : s.size ≤ maxLen)
    (h : ∀ v w', OM w' w.heap.size v (wl s) → Below w.heap.size w w' → K (a.put o.dst v) w') : Oper.wp Tryz.prog o a w K Q := by
  obtain ⟨v, w', hr, hom, hb⟩ := conv_text w s hs
  unfold Oper.wp execOp
  simp only [ho, hx, Sem.run_bind, hr, Result.andThen_ok, Sem.run_pure]
  exact h v w' hom hb
theorem four_step {n i : Nat} (h : i < 4) : (Crc.four n).take (i + 1) = (Crc.four n).take i ++ [n / 256 ^ i % 256] := by
  rcases i with _ | _ | _ | _ | i <;> first | rfl | omega | (simp [Crc.four])
theorem wl_extract (s : ByteArray) (i j : Nat) : wl (s.extract i j) = ((wl s).take j).drop i := by
  unfold wl
  rw [ByteArray.data_extract, Array.toList_extract, ← List.map_take, ← List.map_drop, List.drop_take]
theorem cut_bl {s : ByteArray} {n : Nat} : s.extract 0 n = bl ((wl s).take n) := by
  refine wl_inj ?_
  rw [wl_extract, wl_bl (fun x hx => wl_lt _ x (List.mem_of_mem_take hx)), List.drop_zero]
theorem str_eq9 {a b : ByteArray} (h : (!(a.toList == b.toList)) = false) : a = b := by
  have h1 : a.toList = b.toList := by simpa using h
  refine wl_inj ?_
  unfold wl
  rw [← ByteArray.toList_eq, ← ByteArray.toList_eq, h1]
theorem four_small (n : Nat) : Small (Crc.four n) := by
  intro x hx
  simp [Crc.four] at hx
  rcases hx with rfl | rfl | rfl | rfl <;> omega
theorem seal_small {l : List Nat} (h : Small l) : Small (Crc.seal' l) := h.append (four_small _)
def openR : Option (List Nat) → ByteArray × Bool
  | none => (⟨#[]⟩, false)
  | some l => (bl l, true)
theorem open_short {l : List Nat} (h : l.length < 4) : Crc.opened l = none := by
  unfold Crc.opened
  rw [if_neg (by omega)]
theorem open_not {l : List Nat} {m : Nat} (h : l.length = m + 4) (hn : ¬ Crc.seal' (l.take m) = l) : Crc.opened l = none := by
  unfold Crc.opened
  rw [h, Nat.add_sub_cancel, if_neg (fun h => hn h.2)]
theorem open_yes {l : List Nat} {m : Nat} (h : l.length = m + 4) (hn : Crc.seal' (l.take m) = l) : Crc.opened l = some (l.take m) := by
  unfold Crc.opened
  rw [h, Nat.add_sub_cancel, if_pos ⟨by omega, hn⟩]
set_option maxHeartbeats 4000000 in
set_option maxRecDepth 100000 in
theorem seal17 (w : World) (s : ByteArray) (hsz9 : s.size ≤ 900000000) : Calls Tryz.prog 16 #[.string s] w fun e w1 => e = .returned (.string (bl (Crc.seal' (wl s)))) ∧ Below w.heap.size w w1 := by
 have hsz : s.size ≤ 1000000000 := by omega
 refine calls_of_wp Tryz.func16 rfl ?_
 refine Fact.en 24 fun fr hf hT => ?_
 have s0 := hT 0 _ rfl
 clear hT
 refine Fact.sq fun K1 hK1 => ?_
 refine rg ?_
 refine fp fun K Z => ?_
 go_simp
 apply Z.out; clear Z K
 refine Fact.z hf fun fr1 hf1 hT => ?_
 have hKp := hT 0
 simp (decide := true) only [Fact.G, reduceIte, s0] at hKp
 replace hf := hf1; clear hT hf1 s0
 have s0 := hKp; clear hKp
 refine nx (hK1 _ _ ?_)
 refine Fact.sq fun K2 hK2 => ?_
 refine rg ?_
 have b6 := hf.b 6
 have b7 := hf.b 7
 refine fp fun K Z => ?_
 go_simp
 apply Z.out; clear Z K
 refine Fact.reL (n := 24) (by simp only [Fact.G, hf.size]) hf.defers (fun fr1 hf1 hT => ?_)
 have hKp : _ ∧ _ := ⟨hT 0, hT 6⟩
 simp (decide := true) only [Fact.G, hf.size, reduceIte, s0] at hKp
 replace hf := hf1; clear hT hf1 s0 b6 b7
 obtain ⟨s0, s6⟩ := hKp
 have b7 := hf.b 7
 refine ⟨?_⟩
 refine wpList_plain rfl fun KL hKL => ?_
 refine wp_conv _ s rfl (Fact.eval_tmp s6) (by unfold maxLen; omega) (fun v1 w1 hom1 hb1 => hKL _ _ ?_)
 refine Fact.L.out ?_
 refine fp fun K Z => ?_
 go_simp
 apply Z.out; clear Z K
 refine Fact.z hf fun fr1 hf1 hT => ?_
 have hKp : _ ∧ _ := ⟨hT 0, hT 3⟩
 simp (decide := true) only [Fact.G, hf.size, reduceIte, s0] at hKp
 replace hf := hf1; clear hT hf1 s0 s6 b7
 obtain ⟨s0, s3⟩ := hKp
 have hox1 : OX w1 w.heap.size v1 (wl s) := .inr hom1
 clear hom1
 refine nx (hK2 _ _ ?_)
 refine Fact.sq fun K3 hK3 => ?_
 refine rg ?_
 have b8 := hf.b 8
 have b9 := hf.b 9
 refine fp fun K Z => ?_
 go_simp
 apply Z.out; clear Z K
 refine fp fun K Z => ?_
 go_simp
 go_at_call 37; refine (sum36 w1 s hsz).mono ?_; rintro e w2 ⟨rfl, hb2⟩
 have hox2 := hox1.later hb2
 have hb02 := hb1.trans (hb2.mono hb1.size)
 obtain ⟨n, hn⟩ : ∃ n, Crc.sum (wl s) = n := ⟨_, rfl⟩
 have hn32 : n < 4294967296 := by rw [← hn]; exact Crc.sum_lt _
 rw [hn]
 have HN := Lib.hid hn; clear hn
 try dsimp only
 apply Z.out; clear Z K
 refine fp fun K Z => ?_
 go_simp
 apply Z.out; clear Z K
 refine Fact.z hf fun fr1 hf1 hT => ?_
 have hKp : _ ∧ _ := ⟨hT 3, hT 4⟩
 simp (decide := true) only [Fact.G, hf.size, reduceIte, s3] at hKp
 replace hf := hf1; clear hT hf1 s0 s3 b8 b9
 obtain ⟨s3, s4⟩ := hKp
 refine nx (hK3 _ _ ?_)
 refine Fact.sq fun K4 hK4 => ?_
 refine Fact.sq fun K5 hK5 => ?_
 refine rg ?_
 refine fp fun K Z => ?_
 go_simp
 apply Z.out; clear Z K
 refine Fact.z hf fun fr1 hf1 hT => ?_
 have hKp : _ ∧ _ ∧ _ := ⟨hT 3, hT 4, hT 10⟩
 simp (decide := true) only [Fact.G, hf.size, reduceIte, s3, s4] at hKp
 replace hf := hf1; clear hT hf1 s3 s4
 obtain ⟨s3, s4, s10⟩ := hKp
 refine nx (hK5 _ _ ?_)
 refine wp_block ?_
 refine wp_loop_ghost (fun gk fr wr => ∃ (i : Nat) (V : Value), gk = 4 - i ∧ i ≤ 4 ∧ Fact.Fr 24 fr ∧ fr.tmps[3]? = some V ∧ fr.tmps[4]? = some (.int .u32 n) ∧ fr.tmps[10]? = some (.int .i64 i) ∧ OX wr w.heap.size V (wl s ++ (Crc.four n).take i) ∧ Below w.heap.size w wr) (4) ?_ ?_
 · (
 exact ⟨0, _, rfl, by omega, hf, s3, s4, s10, by rw [List.take_zero, List.append_nil]; exact hox2, hb02⟩)
 · (
 clear hf s3 s4 s10
 rintro gk fr wr ⟨i, V, hk, hi, hf, s3, s4, s10, hox, hb⟩
 have HK := Lib.hid hk; clear hk
 refine Fact.sq fun K6 hK6 => ?_
 refine rg ?_
 refine fp fun K Z => ?_
 go_simp
 apply Z.out; clear Z K
 refine Fact.z hf fun fr1 hf1 hT => ?_
 have hKp : _ ∧ _ ∧ _ ∧ _ := ⟨hT 3, hT 4, hT 10, hT 11⟩
 simp (decide := true) only [Fact.G, hf.size, reduceIte, s3, s4, s10] at hKp
 replace hf := hf1; clear hT hf1 s3 s4 s10
 obtain ⟨s3, s4, s10, s11⟩ := hKp
 refine nx (hK6 _ _ ?_)
 refine Fact.sq fun K7 hK7 => ?_
 refine Fact.cond_s s11 (fun hq => ?_) (fun hq => ?_)
 · (
 have hlt : i < 4 := by have h9 := of_decide_eq_true hq; omega
 clear hq
 obtain ⟨d, hd⟩ : ∃ d, n / 256 ^ i = d := ⟨_, rfl⟩
 obtain ⟨x8, hx8⟩ : ∃ x, d % 256 = x := ⟨_, rfl⟩
 have hst : (Crc.four n).take (i + 1) = (Crc.four n).take i ++ [x8] := by rw [← hx8, ← hd]; exact four_step hlt
 have HD := Lib.hid hd; have HX := Lib.hid hx8; have HST := Lib.hid hst; clear hd hx8 hst
 have hl9 : (wl s ++ (Crc.four n).take i).length ≤ 1000000000 := by rw [List.length_append, wl_length, List.length_take]; omega
 refine wp_skip ?_
 refine nx (hK7 _ _ ?_)
 refine Fact.sq fun K8 hK8 => ?_
 refine wp_block ?_
 refine Fact.sq fun K9 hK9 => ?_
 refine rg ?_
 have b12 := hf.b 12
 iterate 2 (refine fp fun K Z => ?_; go_simp; apply Z.out; clear Z K)
 refine Fact.z hf fun fr1 hf1 hT => ?_
 have hKp : _ ∧ _ ∧ _ ∧ _ := ⟨hT 3, hT 4, hT 5, hT 10⟩
 simp (decide := true) only [Fact.G, hf.size, reduceIte, s3, s4, s10] at hKp
 replace hf := hf1; clear hT hf1 s3 s4 s10 s11 b12
 obtain ⟨s3, s4, s5, s10⟩ := hKp
 refine nx (hK9 _ _ ?_)
 refine rg ?_
 have b13 := hf.b 13
 have b14 := hf.b 14
 have b15 := hf.b 15
 have b16 := hf.b 16
 have b17 := hf.b 17
 have b18 := hf.b 18
 have b19 := hf.b 19
 have b20 := hf.b 20
 iterate 3 (refine fp fun K Z => ?_; go_simp; apply Z.out; clear Z K)
 refine fp fun K Z => ?_
 go_simp
 try simp (disch := omega) only [Fact.W]
 apply Z.out; clear Z K
 refine fp fun K Z => ?_
 go_simp
 rw [shr_cut, HD.out]
 apply Z.out; clear Z K
 refine fp fun K Z => ?_
 go_simp
 rw [wrap8, HX.out]
 apply Z.out; clear Z K
 refine fp fun K Z => ?_
 go_simp
 apply Z.out; clear Z K
 refine Fact.reL (n := 24) (by simp only [Fact.G, hf.size]) hf.defers (fun fr1 hf1 hT => ?_)
 have hKp : _ ∧ _ ∧ _ ∧ _ ∧ _ := ⟨hT 3, hT 4, hT 10, hT 13, hT 19⟩
 simp (decide := true) only [Fact.G, hf.size, reduceIte, s3, s4, s10] at hKp
 replace hf := hf1; clear hT hf1 s3 s4 s5 s10 b13 b14 b15 b16 b17 b18 b19 b20
 obtain ⟨s3, s4, s10, s13, s19⟩ := hKp
 have b20 := hf.b 20
 refine ⟨?_⟩
 refine wpList_plain rfl fun KL hKL => ?_
 refine wp_appx _ _ rfl w.heap.size V _ (Fact.eval_tmp s13) (hox.later ((Below.refl _ _).alloc (Nat.le_refl _) _)) wr.heap.size x8 (Fact.eval_tmp s19) (by rw [cell_of_row _ _ 0 _ 5 (0, 0) (heap_alloc_new wr _)]; rfl) hl9 (by have := hb.size; simp; omega) (fun v8 w8 hox8 hg8 => hKL _ _ ?_)
 refine Fact.L.out ?_
 refine fp fun K Z => ?_
 go_simp
 apply Z.out; clear Z K
 refine Fact.z hf fun fr1 hf1 hT => ?_
 have hKp : _ ∧ _ ∧ _ := ⟨hT 3, hT 4, hT 10⟩
 simp (decide := true) only [Fact.G, hf.size, reduceIte, s4, s10] at hKp
 replace hf := hf1; clear hT hf1 s3 s4 s10 s13 s19 b20
 obtain ⟨s3, s4, s10⟩ := hKp
 have hb8 := (hb.alloc hb.size _).grown hg8 (by have := hb.size; simp; omega) (fun kk hkk => (hox.lt kk hkk).1)
 rw [List.append_assoc, ← HST.out] at hox8
 refine Fact.block_normal ?_
 refine nx (hK8 _ _ ?_)
 refine rg ?_
 have b21 := hf.b 21
 refine fp fun K Z => ?_
 go_simp
 try simp (disch := omega) only [Fact.W]
 apply Z.out; clear Z K
 refine fp fun K Z => ?_
 go_simp
 apply Z.out; clear Z K
 refine Fact.z hf fun fr1 hf1 hT => ?_
 have hKp : _ ∧ _ ∧ _ := ⟨hT 3, hT 4, hT 10⟩
 simp (decide := true) only [Fact.G, hf.size, reduceIte, s3, s4] at hKp
 replace hf := hf1; clear hT hf1 s3 s4 s10 b21
 obtain ⟨s3, s4, s10⟩ := hKp
 refine Fact.then_normal ?_
 exact ⟨_, by have := HK.out; omega, i + 1, v8, rfl, by omega, hf, s3, s4, by rw [s10]; rfl, hox8, hb8⟩)
 · (
 have hie : i = 4 := by have h9 := of_decide_eq_false hq; omega
 subst hie
 rw [show (Crc.four n).take 4 = Crc.four n from rfl] at hox
 have hcv := OX.conv hox
 have hres : wl s ++ Crc.four n = Crc.seal' (wl s) := by unfold Crc.seal'; rw [HN.out]
 rw [hres] at hcv
 clear hq hres
 refine wp_exit ?_
 refine Fact.then_exit ?_
 refine Fact.then_exit ?_
 refine Fact.block_exit ?_
 refine nx (hK4 _ _ ?_)
 refine Fact.sq fun K10 hK10 => ?_
 refine rg ?_
 have b22 := hf.b 22
 have b23 := hf.b 23
 iterate 3 (refine fp fun K Z => ?_; go_simp; apply Z.out; clear Z K)
 refine Fact.z hf fun fr1 hf1 hT => ?_
 have hKp := hT 2
 simp (decide := true) only [Fact.G, hf.size, reduceIte] at hKp
 replace hf := hf1; clear hT hf1 s3 s4 s10 s11 b22 b23
 have s2 := hKp; clear hKp
 refine nx (hK10 _ _ ?_)
 refine wp_ret ?_
 exact Fact.ret1 rfl hf s2 ⟨rfl, hb⟩))
set_option maxHeartbeats 4000000 in
set_option maxRecDepth 100000 in
theorem open32 (w : World) (s : ByteArray) (hsz : s.size ≤ 900000000) : Calls Tryz.prog 30 #[.string s] w fun e w1 => e = .returned (.tuple #[.string (openR (Crc.opened (wl s))).1, .bool (openR (Crc.opened (wl s))).2]) ∧ Below w.heap.size w w1 := by
 refine calls_of_wp Tryz.func30 rfl ?_
 refine Fact.en 21 fun fr hf hT => ?_
 have s0 := hT 0 _ rfl
 clear hT
 refine Fact.sq fun K1 hK1 => ?_
 refine rg ?_
 iterate 2 (refine fp fun K Z => ?_; go_simp; apply Z.out; clear Z K)
 refine Fact.z hf fun fr1 hf1 hT => ?_
 have hKp := hT 0
 simp (decide := true) only [Fact.G, reduceIte, s0] at hKp
 replace hf := hf1; clear hT hf1 s0
 have s0 := hKp; clear hKp
 refine nx (hK1 _ _ ?_)
 rcases Nat.lt_or_ge s.size 4 with h4 | h4
 · (
 have q1 : decide ((s.size : Int) - 4 < 0) = true := decide_eq_true (by omega)
 refine Fact.sq fun K2 hK2 => ?_
 refine rg ?_
 have b5 := hf.b 5
 have b6 := hf.b 6
 have b7 := hf.b 7
 iterate 2 (refine fp fun K Z => ?_; go_simp; apply Z.out; clear Z K)
 refine fp fun K Z => ?_
 go_simp
 try simp (disch := omega) only [Fact.W]
 apply Z.out; clear Z K
 refine fp fun K Z => ?_
 go_simp
 apply Z.out; clear Z K
 refine Fact.z hf fun fr1 hf1 hT => ?_
 have hKp : _ ∧ _ := ⟨hT 0, hT 4⟩
 simp (decide := true) only [Fact.G, hf.size, reduceIte, s0] at hKp
 replace hf := hf1; clear hT hf1 s0 b5 b6 b7
 obtain ⟨s0, s4⟩ := hKp
 refine nx (hK2 _ _ ?_)
 refine Fact.sq fun K3 hK3 => ?_
 refine Fact.sq fun K4 hK4 => ?_
 refine rg ?_
 have b8 := hf.b 8
 have b9 := hf.b 9
 have b10 := hf.b 10
 have b11 := hf.b 11
 have b12 := hf.b 12
 have b13 := hf.b 13
 have b14 := hf.b 14
 have b15 := hf.b 15
 have b16 := hf.b 16
 iterate 3 (refine fp fun K Z => ?_; go_simp; apply Z.out; clear Z K)
 refine sk 2 10 false ?_ ?_
 · (
 simp (decide := true) only [Fact.G, reduceIte, hf.size, q1, Fact.N])
 refine sk 2 10 false ?_ ?_
 · (
 simp (decide := true) only [Fact.G, reduceIte, hf.size, q1, Fact.N])
 refine sk 2 10 false ?_ ?_
 · (
 simp (decide := true) only [Fact.G, reduceIte, hf.size, q1, Fact.N])
 refine sk 2 10 false ?_ ?_
 · (
 simp (decide := true) only [Fact.G, reduceIte, hf.size, q1, Fact.N])
 refine sk 2 10 false ?_ ?_
 · (
 simp (decide := true) only [Fact.G, reduceIte, hf.size, q1, Fact.N])
 refine sk 2 10 false ?_ ?_
 · (
 simp (decide := true) only [Fact.G, reduceIte, hf.size, q1, Fact.N])
 refine fp fun K Z => ?_
 go_simp
 apply Z.out; clear Z K
 refine Fact.z hf fun fr1 hf1 hT => ?_
 have hKp : _ ∧ _ ∧ _ := ⟨hT 0, hT 4, hT 17⟩
 simp (decide := true) only [Fact.G, hf.size, reduceIte, s0, s4] at hKp
 replace hf := hf1; clear hT hf1 s0 s4 b8 b9 b10 b11 b12 b13 b14 b15 b16
 obtain ⟨s0, s4, s17⟩ := hKp
 refine nx (hK4 _ _ ?_)
 refine Fact.cond_t s17 ?_
 refine Fact.sq fun K5 hK5 => ?_
 refine rg ?_
 iterate 2 (refine fp fun K Z => ?_; go_simp; apply Z.out; clear Z K)
 refine Fact.z hf fun fr1 hf1 hT => ?_
 have hKp : _ ∧ _ := ⟨hT 2, hT 3⟩
 simp (decide := true) only [Fact.G, hf.size, reduceIte] at hKp
 replace hf := hf1; clear hT hf1 s0 s4 s17
 obtain ⟨s2, s3⟩ := hKp
 refine nx (hK5 _ _ ?_)
 refine wp_ret ?_
 refine Fact.then_ret ?_
 refine Fact.ret2 rfl hf s2 s3 ⟨?_, Below.refl _ _⟩
 rw [open_short (by rw [wl_length]; exact h4)]
 rfl)
 · (
 obtain ⟨m, hm⟩ : ∃ m, s.size = m + 4 := ⟨s.size - 4, by omega⟩
 have hml : (s.size : Int) - 4 = (m : Int) := by omega
 have q1 : decide ((m : Int) < 0) = false := decide_eq_false (by omega)
 have hbl : s.extract 0 m = bl ((wl s).take m) := cut_bl
 obtain ⟨p, hp⟩ : ∃ p, bl ((wl s).take m) = p := ⟨_, rfl⟩
 have hpw : wl p = (wl s).take m := by rw [← hp]; exact wl_bl (fun x hx => wl_lt s x (List.mem_of_mem_take hx))
 have hpz : p.size ≤ 900000000 := by rw [← wl_length p, hpw, List.length_take]; omega
 have HML := Lib.hid hml; have HM := Lib.hid hm; have HBL := Lib.hid (hbl.trans hp); have HPW := Lib.hid hpw; clear hml hbl hp hpw hm
 refine Fact.sq fun K6 hK6 => ?_
 refine rg ?_
 have b5 := hf.b 5
 have b6 := hf.b 6
 have b7 := hf.b 7
 iterate 2 (refine fp fun K Z => ?_; go_simp; apply Z.out; clear Z K)
 refine fp fun K Z => ?_
 go_simp
 try simp (disch := omega) only [Fact.W]
 try simp (disch := omega) only [Fact.W]
 rw [HML.out]
 apply Z.out; clear Z K
 refine fp fun K Z => ?_
 go_simp
 apply Z.out; clear Z K
 refine Fact.z hf fun fr1 hf1 hT => ?_
 have hKp : _ ∧ _ := ⟨hT 0, hT 4⟩
 simp (decide := true) only [Fact.G, hf.size, reduceIte, s0] at hKp
 replace hf := hf1; clear hT hf1 s0 b5 b6 b7
 obtain ⟨s0, s4⟩ := hKp
 refine nx (hK6 _ _ ?_)
 refine Fact.sq fun K7 hK7 => ?_
 refine Fact.sq fun K8 hK8 => ?_
 refine rg ?_
 have b8 := hf.b 8
 have b9 := hf.b 9
 have b10 := hf.b 10
 have b11 := hf.b 11
 have b12 := hf.b 12
 have b13 := hf.b 13
 have b14 := hf.b 14
 have b15 := hf.b 15
 have b16 := hf.b 16
 iterate 3 (refine fp fun K Z => ?_; go_simp; apply Z.out; clear Z K)
 refine og 2 10 false ?_ fun K Z => ?_
 · (
 simp (decide := true) only [Fact.G, reduceIte, hf.size, q1, Fact.N])
 go_simp
 apply Z.out; clear Z K
 refine og 2 10 false ?_ fun K Z => ?_
 · (
 simp (decide := true) only [Fact.G, reduceIte, hf.size, q1, Fact.N])
 go_simp
 apply Z.out; clear Z K
 refine og 2 10 false ?_ fun K Z => ?_
 · (
 simp (decide := true) only [Fact.G, reduceIte, hf.size, q1, Fact.N])
 go_simp
 try rw [if_pos (by have := HM.out; omega)]
 try rw [Oper.upon_value]
 rw [HBL.out]
 apply Z.out; clear Z K
 refine og 2 10 false ?_ fun K Z => ?_
 · (
 simp (decide := true) only [Fact.G, reduceIte, hf.size, q1, Fact.N])
 go_simp
 go_at_call 16; refine (seal17 w p hpz).mono ?_; rintro e w1 ⟨rfl, hb1⟩
 rw [HPW.out]
 obtain ⟨q, hq9⟩ : ∃ q, bl (Crc.seal' ((wl s).take m)) = q := ⟨_, rfl⟩
 rw [hq9]
 have HQ := Lib.hid hq9; clear hq9
 try dsimp only
 apply Z.out; clear Z K
 refine og 2 10 false ?_ fun K Z => ?_
 · (
 simp (decide := true) only [Fact.G, reduceIte, hf.size, q1, Fact.N])
 go_simp
 apply Z.out; clear Z K
 refine og 2 10 false ?_ fun K Z => ?_
 · (
 simp (decide := true) only [Fact.G, reduceIte, hf.size, q1, Fact.N])
 go_simp
 apply Z.out; clear Z K
 refine fp fun K Z => ?_
 go_simp
 apply Z.out; clear Z K
 refine Fact.z hf fun fr1 hf1 hT => ?_
 have hKp : _ ∧ _ ∧ _ := ⟨hT 0, hT 4, hT 17⟩
 simp (decide := true) only [Fact.G, hf.size, reduceIte, s0, s4] at hKp
 replace hf := hf1; clear hT hf1 s0 s4 b8 b9 b10 b11 b12 b13 b14 b15 b16
 obtain ⟨s0, s4, s17⟩ := hKp
 refine nx (hK8 _ _ ?_)
 refine Fact.cond_s s17 (fun hq => ?_) (fun hq => ?_)
 · (
 have hne : ¬ (Crc.seal' ((wl s).take m) = wl s) := fun e => by have h9 := HQ.out; rw [e, bl_wl] at h9; rw [h9] at hq; simp at hq
 have HNE := Lib.hid hne; clear hne hq
 refine Fact.sq fun K9 hK9 => ?_
 refine rg ?_
 iterate 2 (refine fp fun K Z => ?_; go_simp; apply Z.out; clear Z K)
 refine Fact.z hf fun fr1 hf1 hT => ?_
 have hKp : _ ∧ _ := ⟨hT 2, hT 3⟩
 simp (decide := true) only [Fact.G, hf.size, reduceIte] at hKp
 replace hf := hf1; clear hT hf1 s0 s4 s17
 obtain ⟨s2, s3⟩ := hKp
 refine nx (hK9 _ _ ?_)
 refine wp_ret ?_
 refine Fact.then_ret ?_
 refine Fact.ret2 rfl hf s2 s3 ⟨?_, hb1⟩
 rw [open_not (m := m) (by rw [wl_length]; exact HM.out) HNE.out]
 rfl)
 · (
 have heq : Crc.seal' ((wl s).take m) = wl s := by have h8 : q = s := str_eq9 hq; have h9 := HQ.out; rw [h8] at h9; have h7 := congrArg wl h9; rw [wl_bl (seal_small (fun x hx => wl_lt s x (List.mem_of_mem_take hx)))] at h7; exact h7
 have HEQ := Lib.hid heq; clear heq hq
 refine wp_skip ?_
 refine nx (hK7 _ _ ?_)
 refine Fact.sq fun K10 hK10 => ?_
 refine rg ?_
 have b18 := hf.b 18
 have b19 := hf.b 19
 have b20 := hf.b 20
 iterate 2 (refine fp fun K Z => ?_; go_simp; apply Z.out; clear Z K)
 refine fp fun K Z => ?_
 go_simp
 try rw [if_pos (by have := HM.out; omega)]
 try rw [Oper.upon_value]
 rw [HBL.out]
 apply Z.out; clear Z K
 iterate 2 (refine fp fun K Z => ?_; go_simp; apply Z.out; clear Z K)
 refine Fact.z hf fun fr1 hf1 hT => ?_
 have hKp : _ ∧ _ := ⟨hT 2, hT 3⟩
 simp (decide := true) only [Fact.G, hf.size, reduceIte] at hKp
 replace hf := hf1; clear hT hf1 s0 s4 s17 b18 b19 b20
 obtain ⟨s2, s3⟩ := hKp
 refine nx (hK10 _ _ ?_)
 refine wp_ret ?_
 refine Fact.ret2 rfl hf s2 s3 ⟨?_, hb1⟩
 rw [open_yes (m := m) (by rw [wl_length]; exact HM.out) HEQ.out]
 simp only [openR]
 rw [← HPW.out, bl_wl]))
end Dw
end Go.Proofs.YtdkbgbdgmihlmaaGreatDoor
