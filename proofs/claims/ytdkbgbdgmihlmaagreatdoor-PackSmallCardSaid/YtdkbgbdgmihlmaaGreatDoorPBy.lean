/- crc: steps, by. -/
import Derived.Test.YtdkbgbdgmihlmaaGreatDoorQA
import Derived.Test.YtdkbgbdgmihlmaaGreatDoorPCrc
import Derived.Test.YtdkbgbdgmihlmaaGreatDoorPLay
import Derived.Laws.BitsAllLaws
import Derived.Laws.CopyOwn
import Derived.Test.YtdkbgbdgmihlmaaGreatDoorTools
namespace Go.Proofs.YtdkbgbdgmihlmaaGreatDoor
open Go.RowKit
set_option linter.unusedSimpArgs false
set_option linter.unusedVariables false
set_option linter.unnecessarySimpa false
namespace Dw

theorem tab_at {x : Nat} (h : x < 16) : (#[.int .u32 0, .int .u32 498536548, .int .u32 997073096, .int .u32 651767980, .int .u32 1994146192, .int .u32 1802195444, .int .u32 1303535960, .int .u32 1342533948, .int .u32 3988292384, .int .u32 4027552580, .int .u32 3604390888, .int .u32 3412177804, .int .u32 2607071920, .int .u32 2262029012, .int .u32 2685067896, .int .u32 3183342108] : Array Value)[x]? = some (.int .u32 (Crc.T x : Nat)) := by
  rcases x with _ | _ | _ | _ | _ | _ | _ | _ | _ | _ | _ | _ | _ | _ | _ | _ | x <;> first | rfl | omega
theorem tab_cell {w : World} {g x : Nat} {t : TypeId} (h : w.heap[g]? = some (.cells #[.int .u32 0, .int .u32 498536548, .int .u32 997073096, .int .u32 651767980, .int .u32 1994146192, .int .u32 1802195444, .int .u32 1303535960, .int .u32 1342533948, .int .u32 3988292384, .int .u32 4027552580, .int .u32 3604390888, .int .u32 3412177804, .int .u32 2607071920, .int .u32 2262029012, .int .u32 2685067896, .int .u32 3183342108] t (0, 0))) (hx : x < 16) : w.cell? ⟨g, x, none⟩ = some (.int .u32 (Crc.T x : Nat)) := by
  rw [cell_of_row _ _ _ _ _ _ h, tab_at hx]
theorem tab_lt {x : Nat} (h : x < 16) : Crc.T x < 4294967296 := (by decide : ∀ x, x < 16 → Crc.T x < 4294967296) x h
theorem and15 (m : Nat) : m % 256 &&& 15 = m % 16 := by
  rw [show (15 : Nat) = 2 ^ 4 - 1 from rfl, Nat.and_two_pow_sub_one_eq_mod]
  omega
set_option maxHeartbeats 4000000 in
set_option maxRecDepth 100000 in
theorem steps75 (w : World)  : Calls Tryz.prog 74 #[] w fun e w1 => e = .returned (.agg #[.int .u32 0, .int .u32 498536548, .int .u32 997073096, .int .u32 651767980, .int .u32 1994146192, .int .u32 1802195444, .int .u32 1303535960, .int .u32 1342533948, .int .u32 3988292384, .int .u32 4027552580, .int .u32 3604390888, .int .u32 3412177804, .int .u32 2607071920, .int .u32 2262029012, .int .u32 2685067896, .int .u32 3183342108]) ∧ Below w.heap.size w w1 := by
 refine calls_of_wp Tryz.func74 rfl ?_
 refine Fact.en 2 fun fr hf hT => ?_
 clear hT
 refine Fact.sq fun K1 hK1 => ?_
 refine rg ?_
 refine fp fun K Z => ?_
 go_simp
 apply Z.out; clear Z K
 refine Fact.z hf fun fr1 hf1 hT => ?_
 have hKp := hT 0
 simp (decide := true) only [Fact.G, hf.size, reduceIte] at hKp
 replace hf := hf1; clear hT hf1
 have s0 := hKp; clear hKp
 obtain ⟨W0, hW0⟩ : ∃ x, w.alloc (.cells #[.int .u32 0, .int .u32 0, .int .u32 0, .int .u32 0, .int .u32 0, .int .u32 0, .int .u32 0, .int .u32 0, .int .u32 0, .int .u32 0, .int .u32 0, .int .u32 0, .int .u32 0, .int .u32 0, .int .u32 0, .int .u32 0] 162) = x := ⟨_, rfl⟩
 try rw [hW0]
 have hx0 : W0.heap[w.heap.size]? = some (.cells #[.int .u32 0, .int .u32 0, .int .u32 0, .int .u32 0, .int .u32 0, .int .u32 0, .int .u32 0, .int .u32 0, .int .u32 0, .int .u32 0, .int .u32 0, .int .u32 0, .int .u32 0, .int .u32 0, .int .u32 0, .int .u32 0] 162 (0, 0)) := by rw [← hW0]; exact heap_alloc_new w _
 have hb0 : Below w.heap.size w W0 := by rw [← hW0]; exact (Below.refl _ _).alloc (Nat.le_refl _) _
 clear hW0
 refine nx (hK1 _ _ ?_)
 refine Fact.sq fun K2 hK2 => ?_
 refine rg ?_
 have b1 := hf.b 1
 refine fp fun K Z => ?_
 go_simp
 apply Z.out; clear Z K
 refine Fact.reL (n := 2) (by simp only [Fact.G, hf.size]) hf.defers (fun fr1 hf1 hT => ?_)
 have hKp : _ ∧ _ := ⟨hT 0, hT 1⟩
 simp (decide := true) only [Fact.G, hf.size, reduceIte, s0] at hKp
 replace hf := hf1; clear hT hf1 s0 b1
 obtain ⟨s0, s1⟩ := hKp
 refine ⟨?_⟩
 refine wpList_plain rfl fun KL hKL => ?_
 refine wp_store_row 162 _ _ rfl w.heap.size _ (Fact.eval_tmp s0) (Fact.eval_tmp s1) 162 _ hx0 (by kernel_rfl) rfl (by kernel_rfl) (hKL _ _ ?_)
 refine Fact.L.out ?_
 refine Fact.z hf fun fr1 hf1 hT => ?_
 have hKp := hT 0
 simp (decide := true) only [Fact.G, reduceIte, s0] at hKp
 replace hf := hf1; clear hT hf1 s0 s1
 have s0 := hKp; clear hKp
 have hx1 := setRow_heap W0 w.heap.size _ #[.int .u32 0, .int .u32 498536548, .int .u32 997073096, .int .u32 651767980, .int .u32 1994146192, .int .u32 1802195444, .int .u32 1303535960, .int .u32 1342533948, .int .u32 3988292384, .int .u32 4027552580, .int .u32 3604390888, .int .u32 3412177804, .int .u32 2607071920, .int .u32 2262029012, .int .u32 2685067896, .int .u32 3183342108] 162 (0, 0) hx0
 have hb1 := below_setRow hb0 (Nat.le_refl _) #[.int .u32 0, .int .u32 498536548, .int .u32 997073096, .int .u32 651767980, .int .u32 1994146192, .int .u32 1802195444, .int .u32 1303535960, .int .u32 1342533948, .int .u32 3988292384, .int .u32 4027552580, .int .u32 3604390888, .int .u32 3412177804, .int .u32 2607071920, .int .u32 2262029012, .int .u32 2685067896, .int .u32 3183342108]
 refine nx (hK2 _ _ ?_)
 refine wp_ret ?_
 refine ret_c rfl hf s0 hx1 Tryz.underlying162 rfl (by kernel_rfl) ⟨rfl, hb1⟩
set_option maxHeartbeats 4000000 in
set_option maxRecDepth 100000 in
theorem by76 (w : World) (n : Nat) (hn : n < 4294967296) (hs : List Nat) (hlen : hs.length ≤ 1000000) (b c : Nat) (hc : ∀ (i x : Nat), hs[i]? = some x → w.cell? ⟨b, i, none⟩ = some (.int .u8 x)) (hsm : ∀ x ∈ hs, x < 16) : Calls Tryz.prog 75 #[.agg #[.int .u32 0, .int .u32 498536548, .int .u32 997073096, .int .u32 651767980, .int .u32 1994146192, .int .u32 1802195444, .int .u32 1303535960, .int .u32 1342533948, .int .u32 3988292384, .int .u32 4027552580, .int .u32 3604390888, .int .u32 3412177804, .int .u32 2607071920, .int .u32 2262029012, .int .u32 2685067896, .int .u32 3183342108], .int .u32 n, .slice (some ⟨b, 0, none⟩) hs.length c] w fun e w1 => e = .returned (.int .u32 (hs.foldl Crc.nib n : Nat)) ∧ Below w.heap.size w w1 := by
 refine calls_of_wp Tryz.func75 rfl ?_
 refine Fact.en 27 fun fr hf hT => ?_
 have s0 := hT 0 _ rfl
 have s1 := hT 1 _ rfl
 have s2 := hT 2 _ rfl
 clear hT
 refine Fact.sq fun K1 hK1 => ?_
 refine rg ?_
 iterate 2 (refine fp fun K Z => ?_; go_simp; apply Z.out; clear Z K)
 refine Fact.z hf fun fr1 hf1 hT => ?_
 have hKp : _ ∧ _ ∧ _ := ⟨hT 1, hT 2, hT 3⟩
 simp (decide := true) only [Fact.G, hf.size, reduceIte, s1, s2] at hKp
 replace hf := hf1; clear hT hf1 s0 s1 s2
 obtain ⟨s1, s2, s3⟩ := hKp
 obtain ⟨W0, hW0⟩ : ∃ x, w.alloc (.cells #[.int .u32 0, .int .u32 498536548, .int .u32 997073096, .int .u32 651767980, .int .u32 1994146192, .int .u32 1802195444, .int .u32 1303535960, .int .u32 1342533948, .int .u32 3988292384, .int .u32 4027552580, .int .u32 3604390888, .int .u32 3412177804, .int .u32 2607071920, .int .u32 2262029012, .int .u32 2685067896, .int .u32 3183342108] 162) = x := ⟨_, rfl⟩
 try rw [hW0]
 have hx0 : W0.heap[w.heap.size]? = some (.cells #[.int .u32 0, .int .u32 498536548, .int .u32 997073096, .int .u32 651767980, .int .u32 1994146192, .int .u32 1802195444, .int .u32 1303535960, .int .u32 1342533948, .int .u32 3988292384, .int .u32 4027552580, .int .u32 3604390888, .int .u32 3412177804, .int .u32 2607071920, .int .u32 2262029012, .int .u32 2685067896, .int .u32 3183342108] 162 (0, 0)) := by rw [← hW0]; exact heap_alloc_new w _
 have hb0 : Below w.heap.size w W0 := by rw [← hW0]; exact (Below.refl _ _).alloc (Nat.le_refl _) _
 have hrow : ∀ (i x : Nat), hs[i]? = some x → W0.cell? ⟨b, i, none⟩ = some (.int .u8 x) := fun i x hx => cL hb0 (hc i x hx)
 have HROW := Lib.hid hrow; have HS := Lib.hid hsm
 clear hW0 hrow hc hsm
 refine nx (hK1 _ _ ?_)
 refine Fact.sq fun K2 hK2 => ?_
 refine Fact.sq fun K3 hK3 => ?_
 refine rg ?_
 have b9 := hf.b 9
 iterate 3 (refine fp fun K Z => ?_; go_simp; apply Z.out; clear Z K)
 refine Fact.z hf fun fr1 hf1 hT => ?_
 have hKp : _ ∧ _ ∧ _ ∧ _ ∧ _ := ⟨hT 1, hT 3, hT 9, hT 10, hT 11⟩
 simp (decide := true) only [Fact.G, hf.size, reduceIte, s1, s3] at hKp
 replace hf := hf1; clear hT hf1 s1 s2 s3 b9
 obtain ⟨s1, s3, s9, s10, s11⟩ := hKp
 refine nx (hK3 _ _ ?_)
 refine wp_block ?_
 refine wp_loop_ghost (fun gk fr wr => ∃ (i m : Nat), gk = hs.length - i ∧ i ≤ hs.length ∧ Fact.Fr 27 fr ∧ fr.tmps[1]? = some (.int .u32 m) ∧ fr.tmps[3]? = some (.pointer (some ⟨w.heap.size, 0, none⟩)) ∧ fr.tmps[9]? = some (.slice (some ⟨b, 0, none⟩) hs.length c) ∧ fr.tmps[10]? = some (.int .i64 hs.length) ∧ fr.tmps[11]? = some (.int .i64 i) ∧ m = (hs.take i).foldl Crc.nib n ∧ m < 4294967296 ∧ wr = W0) (hs.length) ?_ ?_
 · (
 exact ⟨0, n, rfl, Nat.zero_le _, hf, s1, s3, s9, s10, s11, rfl, hn, rfl⟩)
 · (
 clear hf s1 s3 s9 s10 s11
 rintro gk fr wr ⟨i, m, hk, hi, hf, s1, s3, s9, s10, s11, hm, hm32, hwr⟩
 subst wr
 have HK := Lib.hid hk; have HM := Lib.hid hm; clear hk hm
 refine Fact.sq fun K4 hK4 => ?_
 refine rg ?_
 refine fp fun K Z => ?_
 go_simp
 apply Z.out; clear Z K
 refine Fact.z hf fun fr1 hf1 hT => ?_
 have hKp : _ ∧ _ ∧ _ ∧ _ ∧ _ ∧ _ := ⟨hT 1, hT 3, hT 9, hT 10, hT 11, hT 12⟩
 simp (decide := true) only [Fact.G, hf.size, reduceIte, s1, s3, s9, s10, s11] at hKp
 replace hf := hf1; clear hT hf1 s1 s3 s9 s10 s11
 obtain ⟨s1, s3, s9, s10, s11, s12⟩ := hKp
 refine nx (hK4 _ _ ?_)
 refine Fact.sq fun K5 hK5 => ?_
 refine Fact.cond_s s12 (fun hq => ?_) (fun hq => ?_)
 · (
 have hlt : i < hs.length := by have h9 := of_decide_eq_true hq; omega
 clear hq
 obtain ⟨h, hih⟩ : ∃ h, hs[i]? = some h := ⟨_, List.getElem?_eq_getElem hlt⟩
 have c0 := HROW.out i h hih
 have hh16 := HS.out h (List.mem_of_getElem? hih)
 have hst : (hs.take (i + 1)).foldl Crc.nib n = Crc.nib m h := by rw [List.take_add_one, hih, Option.toList_some, List.foldl_append, ← HM.out]; rfl
 obtain ⟨m2, hm2⟩ : ∃ x, Crc.nib m h = x := ⟨_, rfl⟩
 rw [hm2] at hst
 have hm232 : m2 < 4294967296 := by rw [← hm2]; exact Crc.nib_lt _ _ hm32 hh16
 obtain ⟨x, hx⟩ : ∃ x, m % 16 ^^^ h = x := ⟨_, rfl⟩
 have hx16 : x < 16 := by rw [← hx]; exact Nat.xor_lt_two_pow (n := 4) (by omega) hh16
 have z0 := tab_cell hx0 hx16
 obtain ⟨tx, htx⟩ : ∃ t, Crc.T x = t := ⟨_, rfl⟩
 have htx32 : tx < 4294967296 := by rw [← htx]; exact tab_lt hx16
 rw [htx] at z0
 obtain ⟨q16, hq16⟩ : ∃ q, m / 16 = q := ⟨_, rfl⟩
 have hnib : q16 ^^^ tx = m2 := by rw [← hm2, ← htx, ← hx, ← hq16]; rfl
 obtain ⟨r256, hr256⟩ : ∃ r, m % 256 = r := ⟨_, rfl⟩
 obtain ⟨r16, hr16⟩ : ∃ r, m % 16 = r := ⟨_, rfl⟩
 have hand : r256 &&& 15 = r16 := by rw [← hr256, ← hr16]; exact and15 m
 rw [hr16] at hx
 have hr2 : r256 < 256 := by omega
 have hr1 : r16 < 16 := by omega
 have HST := Lib.hid hst; have HX := Lib.hid hx; have HQ := Lib.hid hq16; have HNIB := Lib.hid hnib; have HR := Lib.hid hr256; have HAND := Lib.hid hand; clear hst hx hq16 hnib hr256 hr16 hand hm2 htx hih
 refine wp_skip ?_
 refine nx (hK5 _ _ ?_)
 refine Fact.sq fun K6 hK6 => ?_
 refine wp_block ?_
 refine Fact.sq fun K7 hK7 => ?_
 refine rg ?_
 have b13 := hf.b 13
 have b14 := hf.b 14
 refine fp fun K Z => ?_
 go_simp
 try rw [if_pos (by omega)]
 apply Z.out; clear Z K
 iterate 2 (refine fp fun K Z => ?_; go_simp; apply Z.out; clear Z K)
 refine Fact.z hf fun fr1 hf1 hT => ?_
 have hKp : _ ∧ _ ∧ _ ∧ _ ∧ _ ∧ _ := ⟨hT 1, hT 3, hT 8, hT 9, hT 10, hT 11⟩
 simp (decide := true) only [Fact.G, hf.size, reduceIte, s1, s3, s9, s10, s11] at hKp
 replace hf := hf1; clear hT hf1 s1 s3 s9 s10 s11 s12 b13 b14
 obtain ⟨s1, s3, s8, s9, s10, s11⟩ := hKp
 refine nx (hK7 _ _ ?_)
 refine rg ?_
 have b15 := hf.b 15
 have b16 := hf.b 16
 have b17 := hf.b 17
 have b18 := hf.b 18
 have b19 := hf.b 19
 have b20 := hf.b 20
 have b21 := hf.b 21
 have b22 := hf.b 22
 have b23 := hf.b 23
 have b24 := hf.b 24
 refine fp fun K Z => ?_
 go_simp
 apply Z.out; clear Z K
 refine fp fun K Z => ?_
 go_simp
 rw [show (m : Int) / 16 = ((m / 16 : Nat) : Int) by omega, HQ.out]
 apply Z.out; clear Z K
 refine fp fun K Z => ?_
 go_simp
 apply Z.out; clear Z K
 refine fp fun K Z => ?_
 go_simp
 rw [wrap8, HR.out]
 apply Z.out; clear Z K
 refine fp fun K Z => ?_
 go_simp
 rw [show (15 : Int) = ((15 : Nat) : Int) from rfl, u8_and_nat r256 15 hr2 (by decide), HAND.out]
 apply Z.out; clear Z K
 refine fp fun K Z => ?_
 go_simp
 apply Z.out; clear Z K
 refine fp fun K Z => ?_
 go_simp
 rw [u8_xor_nat r16 h (by omega) (by omega), HX.out]
 apply Z.out; clear Z K
 refine fp fun K Z => ?_
 go_simp
 try rw [if_pos (by omega)]
 apply Z.out; clear Z K
 refine fp fun K Z => ?_
 go_simp
 apply Z.out; clear Z K
 refine fp fun K Z => ?_
 go_simp
 rw [u32_xor_nat q16 tx (by have := HQ.out; omega) htx32, HNIB.out]
 apply Z.out; clear Z K
 refine fp fun K Z => ?_
 go_simp
 apply Z.out; clear Z K
 refine Fact.z hf fun fr1 hf1 hT => ?_
 have hKp : _ ∧ _ ∧ _ ∧ _ ∧ _ := ⟨hT 1, hT 3, hT 9, hT 10, hT 11⟩
 simp (decide := true) only [Fact.G, hf.size, reduceIte, s3, s9, s10, s11] at hKp
 replace hf := hf1; clear hT hf1 s1 s3 s8 s9 s10 s11 b15 b16 b17 b18 b19 b20 b21 b22 b23 b24
 obtain ⟨s1, s3, s9, s10, s11⟩ := hKp
 refine Fact.block_normal ?_
 refine nx (hK6 _ _ ?_)
 refine rg ?_
 have b25 := hf.b 25
 refine fp fun K Z => ?_
 go_simp
 try simp (disch := omega) only [Fact.W]
 apply Z.out; clear Z K
 refine fp fun K Z => ?_
 go_simp
 apply Z.out; clear Z K
 refine Fact.z hf fun fr1 hf1 hT => ?_
 have hKp : _ ∧ _ ∧ _ ∧ _ ∧ _ := ⟨hT 1, hT 3, hT 9, hT 10, hT 11⟩
 simp (decide := true) only [Fact.G, hf.size, reduceIte, s1, s3, s9, s10] at hKp
 replace hf := hf1; clear hT hf1 s1 s3 s9 s10 s11 b25
 obtain ⟨s1, s3, s9, s10, s11⟩ := hKp
 refine Fact.then_normal ?_
 exact ⟨_, by have := HK.out; omega, i + 1, m2, rfl, by omega, hf, s1, s3, s9, s10, by rw [s11]; rfl, HST.out.symm, hm232, rfl⟩)
 · (
 have hie : i = hs.length := by have h9 := of_decide_eq_false hq; omega
 have hme : m = hs.foldl Crc.nib n := by have h9 := HM.out; rwa [hie, List.take_length] at h9
 have HME := Lib.hid hme; clear hme hie hq
 refine wp_exit ?_
 refine Fact.then_exit ?_
 refine Fact.then_exit ?_
 refine Fact.block_exit ?_
 refine nx (hK2 _ _ ?_)
 refine Fact.sq fun K8 hK8 => ?_
 refine rg ?_
 have b26 := hf.b 26
 iterate 2 (refine fp fun K Z => ?_; go_simp; apply Z.out; clear Z K)
 refine Fact.z hf fun fr1 hf1 hT => ?_
 have hKp := hT 6
 simp (decide := true) only [Fact.G, hf.size, reduceIte] at hKp
 replace hf := hf1; clear hT hf1 s1 s3 s9 s10 s11 s12 b26
 have s6 := hKp; clear hKp
 refine nx (hK8 _ _ ?_)
 refine wp_ret ?_
 exact Fact.ret1 rfl hf s6 ⟨by rw [HME.out], hb0⟩))
end Dw
end Go.Proofs.YtdkbgbdgmihlmaaGreatDoor
