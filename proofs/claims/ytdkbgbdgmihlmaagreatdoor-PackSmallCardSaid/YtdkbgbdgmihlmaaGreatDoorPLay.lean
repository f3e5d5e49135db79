/- vary: lay, Size. -/
import Derived.Test.YtdkbgbdgmihlmaaGreatDoorQA
import Derived.Test.YtdkbgbdgmihlmaaGreatDoorPBase
import Derived.Test.YtdkbgbdgmihlmaaGreatDoorShelf
import Derived.Test.YtdkbgbdgmihlmaaGreatDoorTools
namespace Go.Proofs.YtdkbgbdgmihlmaaGreatDoor
open Go.RowKit
set_option linter.unusedSimpArgs false
set_option linter.unusedVariables false
set_option linter.unnecessarySimpa false
namespace Dw

/-- the cells of nine bytes and a number -/
def lcs (l : List Nat) (k : Nat) : List Value := l.map (fun (x : Nat) => Value.int .u8 x) ++ [.int .i64 k]
def numP (n : Nat) : List Nat := numB n ++ List.replicate (9 - (numB n).length) 0
theorem numP_length {n : Nat} (h : n < M64) : (numP n).length = 9 := by
  have := numB_le h
  unfold numP
  rw [List.length_append, List.length_replicate]
  omega
theorem lcs_size {l : List Nat} {k : Nat} (h : l.length = 9) : (lcs l k).toArray.size = 10 := by
  rw [List.size_toArray]
  unfold lcs
  rw [List.length_append, List.length_map, h]
  rfl
theorem lcs_one (l : List Nat) (k : Nat) : (lcs l k).toArray.all (·.oneCell') = true := by
  rw [Array.all_eq_true_iff_forall_mem]
  intro v hv
  have hv : v ∈ lcs l k := by simpa using hv
  rcases List.mem_append.1 hv with hv | hv
  · obtain ⟨x, _, rfl⟩ := List.mem_map.1 hv
    rfl
  · simp at hv; subst hv; rfl
theorem lcs_at {w : World} {g i k x : Nat} {l : List Nat} {t : TypeId} (h : w.heap[g]? = some (.cells (lcs l k).toArray t (0, 0))) (hi : l[i]? = some x) : w.cell? ⟨g, i, none⟩ = some (.int .u8 x) := by
  have hl := (List.getElem?_eq_some_iff.1 hi).1
  rw [cell_of_row _ _ i _ t (0, 0) h]
  unfold lcs
  simp only [List.getElem?_toArray]
  rw [List.getElem?_append_left (by simpa using hl), List.getElem?_map, hi]
  rfl
theorem lcs_last {w : World} {g k : Nat} {l : List Nat} {t : TypeId} (h : w.heap[g]? = some (.cells (lcs l k).toArray t (0, 0))) (hl : l.length = 9) : w.cell? ⟨g, 9, none⟩ = some (.int .i64 k) := by
  rw [cell_of_row _ _ 9 _ t (0, 0) h]
  unfold lcs
  simp only [List.getElem?_toArray]
  rw [List.getElem?_append_right (by simp [hl])]
  simp [hl]
theorem lcs_set {l : List Nat} {k i x : Nat} (hi : i < l.length) : (lcs l k).toArray.setIfInBounds i (.int .u8 (x : Int)) = (lcs (l.set i x) k).toArray := by
  unfold lcs
  rw [List.setIfInBounds_toArray, List.set_append_left _ _ (by simpa using hi), List.map_set]
theorem lcs_setlast {l : List Nat} {k j : Nat} (hl : l.length = 9) : (lcs l k).toArray.setIfInBounds 9 (.int .i64 (j : Int)) = (lcs l j).toArray := by
  unfold lcs
  rw [List.setIfInBounds_toArray, List.set_append_right _ _ (by simp [hl])]
  simp [hl]
theorem lay_lit {n : Nat} (h : n < 248) : lcs (numP n) (numB n).length = [.int .u8 n, .int .u8 0, .int .u8 0, .int .u8 0, .int .u8 0, .int .u8 0, .int .u8 0, .int .u8 0, .int .u8 0, .int .i64 1] := by
  have e : numB n = [n] := by unfold numB; rw [if_pos h]
  unfold numP
  rw [e]
  rfl
theorem lay_next {n m i : Nat} (h : i < m) (hm : m ≤ 8) : ((247 + m) :: (leB i n ++ List.replicate (8 - i) 0))[1 + i]? = some 0 := by
  rw [Nat.add_comm 1 i, List.getElem?_cons_succ, List.getElem?_append_right (by rw [leB_length]; omega), leB_length, Nat.sub_self, List.getElem?_replicate, if_pos (by omega)]
theorem lay_step {n m i : Nat} (h : i < m) (hm : m ≤ 8) : ((247 + m) :: (leB i n ++ List.replicate (8 - i) 0)).set (1 + i) (n / 256 ^ i % 256) = (247 + m) :: (leB (i + 1) n ++ List.replicate (8 - (i + 1)) 0) := by
  rw [Nat.add_comm 1 i, List.set_cons_succ, List.set_append_right _ _ (by rw [leB_length]; omega), leB_length, Nat.sub_self, leB_snoc, List.append_assoc, show 8 - i = (8 - (i + 1)) + 1 by omega, List.replicate_succ]
  rfl
theorem lay_full {n i : Nat} (h : lenB n = i) (hn : 248 ≤ n) : lcs ((247 + i) :: (leB i n ++ List.replicate (8 - i) 0)) (1 + i) = lcs (numP n) (numB n).length := by
  have e : numB n = (247 + i) :: leB i n := by unfold numB; rw [if_neg (by omega), h]
  unfold numP
  rw [e, List.length_cons, leB_length, show 9 - (i + 1) = 8 - i by omega, Nat.add_comm 1 i]
  rfl
theorem shr_cut {n i : Nat} : (n : Int) / 2 ^ (8 * (i : Int)).toNat = ((n / 256 ^ i : Nat) : Int) := by
  rw [show (8 * (i : Int)).toNat = 8 * i by omega, show (2 : Int) ^ (8 * i) = ((256 ^ i : Nat) : Int) by rw [pow256]; norm_cast]
  rfl
theorem wrap8 {n : Nat} : IntKind.u8.wrap (n : Int) = ((n % 256 : Nat) : Int) := by rw [IntKind.wrap_u8]; omega
theorem len_div {n m : Nat} (h : (Lib.bitLen n + 7) / 8 = m) : ((Lib.bitLen n : Int) + 8 - 1).tdiv 8 = (m : Int) := by
  rw [Int.tdiv_eq_ediv_of_nonneg (by omega)]
  omega
set_option maxHeartbeats 4000000 in
set_option maxRecDepth 100000 in
theorem lay_small (w : World) (n : Nat) (hn : n < 248) : Calls Tryz.prog 66 #[.int .u64 n] w fun e w1 => e = .returned (.agg (lcs (numP n) (numB n).length).toArray) ∧ Below w.heap.size w w1 := by
 refine calls_of_wp Tryz.func66 rfl ?_
 refine Fact.en 41 fun fr hf hT => ?_
 have s0 := hT 0 _ rfl
 clear hT
 have q0 : decide ((n : Int) < 248) = true := decide_eq_true (by omega)
 refine Fact.sq fun K1 hK1 => ?_
 refine rg ?_
 refine fp fun K Z => ?_
 go_simp
 apply Z.out; clear Z K
 refine Fact.z hf fun fr1 hf1 hT => ?_
 have hKp : _ ∧ _ := ⟨hT 0, hT 2⟩
 simp (decide := true) only [Fact.G, hf.size, reduceIte, s0] at hKp
 replace hf := hf1; clear hT hf1 s0
 obtain ⟨s0, s2⟩ := hKp
 obtain ⟨W0, hW0⟩ : ∃ x, w.alloc (.cells #[.int .u8 0, .int .u8 0, .int .u8 0, .int .u8 0, .int .u8 0, .int .u8 0, .int .u8 0, .int .u8 0, .int .u8 0, .int .i64 0] 153) = x := ⟨_, rfl⟩
 try rw [hW0]
 have hx0 : W0.heap[w.heap.size]? = some (.cells (lcs (List.replicate 9 0) 0).toArray 153 (0, 0)) := by rw [← hW0, heap_get, if_pos rfl]; rfl
 have hb0 : Below w.heap.size w W0 := by rw [← hW0]; exact (Below.refl _ _).alloc (Nat.le_refl _) _
 clear hW0
 refine nx (hK1 _ _ ?_)
 refine Fact.sq fun K2 hK2 => ?_
 refine Fact.sq fun K3 hK3 => ?_
 refine rg ?_
 have b5 := hf.b 5
 iterate 2 (refine fp fun K Z => ?_; go_simp; apply Z.out; clear Z K)
 refine Fact.z hf fun fr1 hf1 hT => ?_
 have hKp : _ ∧ _ ∧ _ := ⟨hT 0, hT 2, hT 6⟩
 simp (decide := true) only [Fact.G, hf.size, reduceIte, s0, s2] at hKp
 replace hf := hf1; clear hT hf1 s0 s2 b5
 obtain ⟨s0, s2, s6⟩ := hKp
 refine nx (hK3 _ _ ?_)
 refine Fact.cond_t s6 ?_
 clear q0
 have f0 := frozen_of (i := 0) hx0; have f9 := frozen_of (i := 9) hx0
 have z0 := lcs_at (i := 0) (x := 0) hx0 (by simp)
 have z9 := lcs_last hx0 (by simp)
 refine Fact.sq fun K4 hK4 => ?_
 refine rg ?_
 have b7 := hf.b 7
 have b8 := hf.b 8
 have b9 := hf.b 9
 have b10 := hf.b 10
 have b11 := hf.b 11
 refine fp fun K Z => ?_
 go_simp
 apply Z.out; clear Z K
 refine fp fun K Z => ?_
 go_simp
 rw [Fact.wrap_u8 (by omega) (by omega)]
 apply Z.out; clear Z K
 refine fp fun K Z => ?_
 go_simp
 apply Z.out; clear Z K
 refine fp fun K Z => ?_
 go_simp
 try rw [if_pos (by omega)]
 apply Z.out; clear Z K
 iterate 3 (refine fp fun K Z => ?_; go_simp; apply Z.out; clear Z K)
 refine Fact.z hf fun fr1 hf1 hT => ?_
 have hKp := hT 2
 simp (decide := true) only [Fact.G, reduceIte, s2] at hKp
 replace hf := hf1; clear hT hf1 s0 s2 s6 b7 b8 b9 b10 b11
 have s2 := hKp; clear hKp
 have hx1 := set_block (i := 9) (set_block (i := 0) hx0 (.int .u8 n)) (.int .i64 1)
 have hb1 := (hb0.setCell (p := ⟨w.heap.size, 0, none⟩) (Nat.le_refl _) (.int .u8 n)).setCell (p := ⟨w.heap.size, 9, none⟩) (Nat.le_refl _) (.int .i64 1)
 rw [show ((lcs (List.replicate 9 0) 0).toArray.setIfInBounds 0 (.int .u8 n)).setIfInBounds 9 (.int .i64 1) = (lcs (numP n) (numB n).length).toArray by rw [lay_lit hn]; rfl] at hx1
 obtain ⟨W1, hW1⟩ : ∃ x, (W0.setCell ⟨w.heap.size, 0, none⟩ (.int .u8 n)).setCell ⟨w.heap.size, 9, none⟩ (.int .i64 1) = x := ⟨_, rfl⟩
 rw [hW1] at hx1 hb1
 rw [hW1]
 have hnl := numP_length (n := n) (by unfold M64; omega)
 clear hW1 z0 z9 f0 f9 hx0 hb0
 refine nx (hK4 _ _ ?_)
 refine Fact.sq fun K5 hK5 => ?_
 refine rg ?_
 have b12 := hf.b 12
 refine ⟨?_⟩
 refine wpList_load_row rfl 153 _ rfl w.heap.size (Fact.eval_tmp s2) 153 _ (0, 0) _ hx1 Tryz.underlying153 rfl (by rw [lcs_size hnl]; kernel_rfl) ?_
 refine Fact.L.out ?_
 refine Fact.reL (n := 41) (by simp only [Fact.G, hf.size]) hf.defers (fun fr1 hf1 hT => ?_)
 have hKp : _ ∧ _ := ⟨hT 2, hT 12⟩
 simp (decide := true) only [Fact.G, hf.size, reduceIte, s2] at hKp
 replace hf := hf1; clear hT hf1 s2 b12
 obtain ⟨s2, s12⟩ := hKp
 refine ⟨?_⟩
 refine wpList_plain rfl fun KL hKL => ?_
 refine wp_store_row 153 _ _ rfl w.heap.size _ (Fact.eval_tmp s2) (Fact.eval_tmp s12) 153 _ hx1 (by rw [lcs_size hnl]; kernel_rfl) rfl (lcs_one _ _) (hKL _ _ ?_)
 refine Fact.L.out ?_
 refine Fact.z hf fun fr1 hf1 hT => ?_
 have hKp := hT 2
 simp (decide := true) only [Fact.G, reduceIte, s2] at hKp
 replace hf := hf1; clear hT hf1 s2 s12
 have s2 := hKp; clear hKp
 rw [setRow_self _ _ _ 153 (0, 0) hx1]
 refine nx (hK5 _ _ ?_)
 refine wp_ret ?_
 refine Fact.then_ret ?_
 refine ret_c rfl hf s2 hx1 Tryz.underlying153 rfl (by rw [lcs_size hnl]; kernel_rfl) ⟨?_, hb1⟩
 rfl
set_option maxHeartbeats 4000000 in
set_option maxRecDepth 100000 in
theorem lay_big (w : World) (n : Nat) (hn : 248 ≤ n) (hn64 : n < M64) : Calls Tryz.prog 66 #[.int .u64 n] w fun e w1 => e = .returned (.agg (lcs (numP n) (numB n).length).toArray) ∧ Below w.heap.size w w1 := by
 refine calls_of_wp Tryz.func66 rfl ?_
 refine Fact.en 41 fun fr hf hT => ?_
 have s0 := hT 0 _ rfl
 clear hT
 have q0 : decide ((n : Int) < 248) = false := decide_eq_false (by omega)
 refine Fact.sq fun K1 hK1 => ?_
 refine rg ?_
 refine fp fun K Z => ?_
 go_simp
 apply Z.out; clear Z K
 refine Fact.z hf fun fr1 hf1 hT => ?_
 have hKp : _ ∧ _ := ⟨hT 0, hT 2⟩
 simp (decide := true) only [Fact.G, hf.size, reduceIte, s0] at hKp
 replace hf := hf1; clear hT hf1 s0
 obtain ⟨s0, s2⟩ := hKp
 obtain ⟨W0, hW0⟩ : ∃ x, w.alloc (.cells #[.int .u8 0, .int .u8 0, .int .u8 0, .int .u8 0, .int .u8 0, .int .u8 0, .int .u8 0, .int .u8 0, .int .u8 0, .int .i64 0] 153) = x := ⟨_, rfl⟩
 try rw [hW0]
 have hx0 : W0.heap[w.heap.size]? = some (.cells (lcs (List.replicate 9 0) 0).toArray 153 (0, 0)) := by rw [← hW0, heap_get, if_pos rfl]; rfl
 have hb0 : Below w.heap.size w W0 := by rw [← hW0]; exact (Below.refl _ _).alloc (Nat.le_refl _) _
 clear hW0
 refine nx (hK1 _ _ ?_)
 refine Fact.sq fun K2 hK2 => ?_
 refine Fact.sq fun K3 hK3 => ?_
 refine rg ?_
 have b5 := hf.b 5
 iterate 2 (refine fp fun K Z => ?_; go_simp; apply Z.out; clear Z K)
 refine Fact.z hf fun fr1 hf1 hT => ?_
 have hKp : _ ∧ _ ∧ _ := ⟨hT 0, hT 2, hT 6⟩
 simp (decide := true) only [Fact.G, hf.size, reduceIte, s0, s2] at hKp
 replace hf := hf1; clear hT hf1 s0 s2 b5
 obtain ⟨s0, s2, s6⟩ := hKp
 refine nx (hK3 _ _ ?_)
 refine Fact.cond_f s6 ?_
 clear q0
 obtain ⟨hm1, hm8, -, -⟩ := lenB_bounds (show 0 < n by omega) hn64
 obtain ⟨m, hm⟩ : ∃ m, lenB n = m := ⟨_, rfl⟩
 rw [hm] at hm1 hm8
 have hml : (Lib.bitLen n + 7) / 8 = m := hm
 have HM := Lib.hid hm; clear hm
 have f0 := frozen_of (i := 0) hx0
 have z0 := lcs_at (i := 0) (x := 0) hx0 (by simp)
 refine wp_skip ?_
 refine nx (hK2 _ _ ?_)
 refine Fact.sq fun K4 hK4 => ?_
 refine rg ?_
 have b13 := hf.b 13
 have b14 := hf.b 14
 have b15 := hf.b 15
 have b16 := hf.b 16
 have b17 := hf.b 17
 refine fp fun K Z => ?_
 go_simp
 apply Z.out; clear Z K
 refine fp fun K Z => ?_
 go_simp
 go_at_call 81; refine (Tryz.bits_Len64 (n : Int) W0 (by omega) (by unfold M64 at hn64; omega)).mono ?_; rintro e w1 ⟨rfl, hww⟩
 subst w1
 rw [Int.toNat_natCast]
 try dsimp only
 apply Z.out; clear Z K
 refine fp fun K Z => ?_
 go_simp
 try simp (disch := omega) only [Fact.W]
 apply Z.out; clear Z K
 refine fp fun K Z => ?_
 go_simp
 try simp (disch := omega) only [Fact.W]
 apply Z.out; clear Z K
 refine fp fun K Z => ?_
 go_simp
 rw [len_div hml, Fact.wrap_i64 (by omega) (by omega)]
 clear hml
 apply Z.out; clear Z K
 refine fp fun K Z => ?_
 go_simp
 apply Z.out; clear Z K
 refine Fact.z hf fun fr1 hf1 hT => ?_
 have hKp : _ ∧ _ ∧ _ := ⟨hT 0, hT 2, hT 3⟩
 simp (decide := true) only [Fact.G, hf.size, reduceIte, s0, s2] at hKp
 replace hf := hf1; clear hT hf1 s0 s2 s6 b13 b14 b15 b16 b17
 obtain ⟨s0, s2, s3⟩ := hKp
 refine nx (hK4 _ _ ?_)
 refine Fact.sq fun K5 hK5 => ?_
 refine rg ?_
 have b18 := hf.b 18
 have b19 := hf.b 19
 have b20 := hf.b 20
 have b21 := hf.b 21
 have b22 := hf.b 22
 refine fp fun K Z => ?_
 go_simp
 apply Z.out; clear Z K
 refine fp fun K Z => ?_
 go_simp
 try simp (disch := omega) only [Fact.W]
 rw [show (247 : Int) + (m : Int) = ((247 + m : Nat) : Int) by omega]
 apply Z.out; clear Z K
 refine fp fun K Z => ?_
 go_simp
 rw [Fact.wrap_u8 (by omega) (by omega)]
 apply Z.out; clear Z K
 refine fp fun K Z => ?_
 go_simp
 apply Z.out; clear Z K
 refine fp fun K Z => ?_
 go_simp
 try rw [if_pos (by omega)]
 apply Z.out; clear Z K
 refine fp fun K Z => ?_
 go_simp
 apply Z.out; clear Z K
 refine Fact.z hf fun fr1 hf1 hT => ?_
 have hKp : _ ∧ _ ∧ _ := ⟨hT 0, hT 2, hT 3⟩
 simp (decide := true) only [Fact.G, reduceIte, s0, s2, s3] at hKp
 replace hf := hf1; clear hT hf1 s0 s2 s3 b18 b19 b20 b21 b22
 obtain ⟨s0, s2, s3⟩ := hKp
 rw [show (247 : Int) + (m : Int) = ((247 + m : Nat) : Int) by omega]
 have hx1 := set_block (i := 0) hx0 (.int .u8 ((247 + m : Nat) : Int))
 have hb1 := hb0.setCell (p := ⟨w.heap.size, 0, none⟩) (Nat.le_refl _) (.int .u8 ((247 + m : Nat) : Int))
 rw [lcs_set (by simp)] at hx1
 obtain ⟨W1, hW1⟩ : ∃ x, W0.setCell ⟨w.heap.size, 0, none⟩ (.int .u8 ((247 + m : Nat) : Int)) = x := ⟨_, rfl⟩
 rw [hW1] at hx1 hb1
 try rw [hW1]
 replace hx1 : W1.heap[w.heap.size]? = some (.cells (lcs ((247 + m) :: (leB 0 n ++ List.replicate (8 - 0) 0)) 0).toArray 153 (0, 0)) := hx1
 clear hW1 z0 f0 hx0 hb0
 refine nx (hK5 _ _ ?_)
 refine Fact.sq fun K6 hK6 => ?_
 refine Fact.sq fun K7 hK7 => ?_
 refine rg ?_
 iterate 2 (refine fp fun K Z => ?_; go_simp; apply Z.out; clear Z K)
 refine Fact.z hf fun fr1 hf1 hT => ?_
 have hKp : _ ∧ _ ∧ _ ∧ _ ∧ _ := ⟨hT 0, hT 2, hT 3, hT 23, hT 24⟩
 simp (decide := true) only [Fact.G, hf.size, reduceIte, s0, s2, s3] at hKp
 replace hf := hf1; clear hT hf1 s0 s2 s3
 obtain ⟨s0, s2, s3, s23, s24⟩ := hKp
 refine nx (hK7 _ _ ?_)
 refine wp_block ?_
 refine wp_loop_ghost (fun gk fr wr => ∃ (i : Nat), gk = m - i ∧ i ≤ m ∧ Fact.Fr 41 fr ∧ fr.tmps[0]? = some (.int .u64 n) ∧ fr.tmps[2]? = some (.pointer (some ⟨w.heap.size, 0, none⟩)) ∧ fr.tmps[3]? = some (.int .i64 m) ∧ fr.tmps[23]? = some (.int .i64 m) ∧ fr.tmps[24]? = some (.int .i64 i) ∧ wr.heap[w.heap.size]? = some (.cells (lcs ((247 + m) :: (leB i n ++ List.replicate (8 - i) 0)) 0).toArray 153 (0, 0)) ∧ Below w.heap.size w wr) (m) ?_ ?_
 · (
 exact ⟨0, rfl, Nat.zero_le _, hf, s0, s2, s3, s23, s24, hx1, hb1⟩)
 · (
 clear hf s0 s2 s3 s23 s24
 clear hx1 hb1
 rintro gk fr wr ⟨i, hk, hi, hf, s0, s2, s3, s23, s24, hx, hb⟩
 have HK := Lib.hid hk; clear hk
 refine Fact.sq fun K8 hK8 => ?_
 refine rg ?_
 refine fp fun K Z => ?_
 go_simp
 apply Z.out; clear Z K
 refine Fact.z hf fun fr1 hf1 hT => ?_
 have hKp : _ ∧ _ ∧ _ ∧ _ ∧ _ ∧ _ := ⟨hT 0, hT 2, hT 3, hT 23, hT 24, hT 25⟩
 simp (decide := true) only [Fact.G, hf.size, reduceIte, s0, s2, s3, s23, s24] at hKp
 replace hf := hf1; clear hT hf1 s0 s2 s3 s23 s24
 obtain ⟨s0, s2, s3, s23, s24, s25⟩ := hKp
 refine nx (hK8 _ _ ?_)
 refine Fact.sq fun K9 hK9 => ?_
 refine Fact.cond_s s25 (fun hq => ?_) (fun hq => ?_)
 · (
 have hlt : i < m := by have h9 := of_decide_eq_true hq; omega
 clear hq
 have f1 := frozen_of (i := 1 + i) hx
 have z1 := lcs_at (i := 1 + i) (x := 0) hx (lay_next hlt hm8)
 obtain ⟨d, hd⟩ : ∃ d, n / 256 ^ i = d := ⟨_, rfl⟩
 obtain ⟨x8, hx8⟩ : ∃ x8, d % 256 = x8 := ⟨_, rfl⟩
 have HD := Lib.hid hd; have HX8 := Lib.hid hx8; clear hd hx8
 refine wp_skip ?_
 refine nx (hK9 _ _ ?_)
 refine Fact.sq fun K10 hK10 => ?_
 refine wp_block ?_
 refine Fact.sq fun K11 hK11 => ?_
 refine rg ?_
 have b26 := hf.b 26
 iterate 2 (refine fp fun K Z => ?_; go_simp; apply Z.out; clear Z K)
 refine Fact.z hf fun fr1 hf1 hT => ?_
 have hKp : _ ∧ _ ∧ _ ∧ _ ∧ _ ∧ _ := ⟨hT 0, hT 2, hT 3, hT 4, hT 23, hT 24⟩
 simp (decide := true) only [Fact.G, hf.size, reduceIte, s0, s2, s3, s23, s24] at hKp
 replace hf := hf1; clear hT hf1 s0 s2 s3 s23 s24 s25 b26
 obtain ⟨s0, s2, s3, s4, s23, s24⟩ := hKp
 refine nx (hK11 _ _ ?_)
 refine rg ?_
 have b27 := hf.b 27
 have b28 := hf.b 28
 have b29 := hf.b 29
 have b30 := hf.b 30
 have b31 := hf.b 31
 have b32 := hf.b 32
 have b33 := hf.b 33
 have b34 := hf.b 34
 have b35 := hf.b 35
 refine fp fun K Z => ?_
 go_simp
 apply Z.out; clear Z K
 refine fp fun K Z => ?_
 go_simp
 try simp (disch := omega) only [Fact.W]
 rw [show (1 : Int) + (i : Int) = ((1 + i : Nat) : Int) by omega]
 apply Z.out; clear Z K
 iterate 2 (refine fp fun K Z => ?_; go_simp; apply Z.out; clear Z K)
 refine fp fun K Z => ?_
 go_simp
 try simp (disch := omega) only [Fact.W]
 apply Z.out; clear Z K
 refine fp fun K Z => ?_
 go_simp
 rw [shr_cut, HD.out]
 apply Z.out; clear Z K
 refine fp fun K Z => ?_
 go_simp
 rw [wrap8, HX8.out]
 apply Z.out; clear Z K
 refine fp fun K Z => ?_
 go_simp
 apply Z.out; clear Z K
 refine fp fun K Z => ?_
 go_simp
 try rw [if_pos (by omega)]
 rw [show ((1 : Int) + (i : Int)).toNat = 1 + i by omega]
 apply Z.out; clear Z K
 refine fp fun K Z => ?_
 go_simp
 apply Z.out; clear Z K
 refine Fact.z hf fun fr1 hf1 hT => ?_
 have hKp : _ ∧ _ ∧ _ ∧ _ ∧ _ := ⟨hT 0, hT 2, hT 3, hT 23, hT 24⟩
 simp (decide := true) only [Fact.G, reduceIte, s0, s2, s3, s23, s24] at hKp
 replace hf := hf1; clear hT hf1 s0 s2 s3 s4 s23 s24 b27 b28 b29 b30 b31 b32 b33 b34 b35
 obtain ⟨s0, s2, s3, s23, s24⟩ := hKp
 try rw [show (1 : Int) + (i : Int) = ((1 + i : Nat) : Int) by omega]
 have hx2 := set_block (i := 1 + i) hx (.int .u8 (x8 : Int))
 have hb2 := hb.setCell (p := ⟨w.heap.size, 1 + i, none⟩) (Nat.le_refl _) (.int .u8 (x8 : Int))
 rw [lcs_set (by simp [leB_length]; omega)] at hx2
 have hst := lay_step (n := n) hlt hm8
 rw [HD.out, HX8.out] at hst
 rw [hst] at hx2
 obtain ⟨W2, hW2⟩ : ∃ x, wr.setCell ⟨w.heap.size, 1 + i, none⟩ (.int .u8 (x8 : Int)) = x := ⟨_, rfl⟩
 rw [hW2] at hx2 hb2
 try rw [hW2]
 clear hW2 hst z1 f1 hx hb
 refine Fact.block_normal ?_
 refine nx (hK10 _ _ ?_)
 refine rg ?_
 have b36 := hf.b 36
 refine fp fun K Z => ?_
 go_simp
 try simp (disch := omega) only [Fact.W]
 apply Z.out; clear Z K
 refine fp fun K Z => ?_
 go_simp
 apply Z.out; clear Z K
 refine Fact.z hf fun fr1 hf1 hT => ?_
 have hKp : _ ∧ _ ∧ _ ∧ _ ∧ _ := ⟨hT 0, hT 2, hT 3, hT 23, hT 24⟩
 simp (decide := true) only [Fact.G, hf.size, reduceIte, s0, s2, s3, s23] at hKp
 replace hf := hf1; clear hT hf1 s0 s2 s3 s23 s24 b36
 obtain ⟨s0, s2, s3, s23, s24⟩ := hKp
 refine Fact.then_normal ?_
 exact ⟨_, by have := HK.out; omega, i + 1, rfl, by omega, hf, s0, s2, s3, s23, by rw [s24]; rfl, hx2, hb2⟩)
 · (
 have hie : i = m := by have h9 := of_decide_eq_false hq; omega
 subst hie
 clear hq
 have hl9 : ((247 + i) :: (leB i n ++ List.replicate (8 - i) 0)).length = 9 := by simp [leB_length]; omega
 have z9 := lcs_last hx hl9
 have f9 := frozen_of (i := 9) hx
 refine wp_exit ?_
 refine Fact.then_exit ?_
 refine Fact.then_exit ?_
 refine Fact.block_exit ?_
 refine nx (hK6 _ _ ?_)
 refine Fact.sq fun K12 hK12 => ?_
 refine rg ?_
 have b37 := hf.b 37
 have b38 := hf.b 38
 have b39 := hf.b 39
 refine fp fun K Z => ?_
 go_simp
 apply Z.out; clear Z K
 refine fp fun K Z => ?_
 go_simp
 try simp (disch := omega) only [Fact.W]
 rw [show (1 : Int) + (i : Int) = ((1 + i : Nat) : Int) by omega]
 apply Z.out; clear Z K
 iterate 2 (refine fp fun K Z => ?_; go_simp; apply Z.out; clear Z K)
 refine Fact.z hf fun fr1 hf1 hT => ?_
 have hKp := hT 2
 simp (decide := true) only [Fact.G, reduceIte, s2] at hKp
 replace hf := hf1; clear hT hf1 s0 s2 s3 s23 s24 s25 b37 b38 b39
 have s2 := hKp; clear hKp
 try rw [show (1 : Int) + (i : Int) = ((1 + i : Nat) : Int) by omega]
 have hx2 := set_block (i := 9) hx (.int .i64 ((1 + i : Nat) : Int))
 have hb2 := hb.setCell (p := ⟨w.heap.size, 9, none⟩) (Nat.le_refl _) (.int .i64 ((1 + i : Nat) : Int))
 rw [lcs_setlast hl9] at hx2
 rw [lay_full HM.out hn] at hx2
 obtain ⟨W2, hW2⟩ : ∃ x, wr.setCell ⟨w.heap.size, 9, none⟩ (.int .i64 ((1 + i : Nat) : Int)) = x := ⟨_, rfl⟩
 rw [hW2] at hx2 hb2
 try rw [hW2]
 have hnl := numP_length (n := n) hn64
 clear hW2 z9 f9 hx hb
 refine nx (hK12 _ _ ?_)
 refine Fact.sq fun K13 hK13 => ?_
 refine rg ?_
 have b40 := hf.b 40
 refine ⟨?_⟩
 refine wpList_load_row rfl 153 _ rfl w.heap.size (Fact.eval_tmp s2) 153 _ (0, 0) _ hx2 Tryz.underlying153 rfl (by rw [lcs_size hnl]; kernel_rfl) ?_
 refine Fact.L.out ?_
 refine Fact.reL (n := 41) (by simp only [Fact.G, hf.size]) hf.defers (fun fr1 hf1 hT => ?_)
 have hKp : _ ∧ _ := ⟨hT 2, hT 40⟩
 simp (decide := true) only [Fact.G, hf.size, reduceIte, s2] at hKp
 replace hf := hf1; clear hT hf1 s2 b40
 obtain ⟨s2, s40⟩ := hKp
 refine ⟨?_⟩
 refine wpList_plain rfl fun KL hKL => ?_
 refine wp_store_row 153 _ _ rfl w.heap.size _ (Fact.eval_tmp s2) (Fact.eval_tmp s40) 153 _ hx2 (by rw [lcs_size hnl]; kernel_rfl) rfl (lcs_one _ _) (hKL _ _ ?_)
 refine Fact.L.out ?_
 refine Fact.z hf fun fr1 hf1 hT => ?_
 have hKp := hT 2
 simp (decide := true) only [Fact.G, reduceIte, s2] at hKp
 replace hf := hf1; clear hT hf1 s2 s40
 have s2 := hKp; clear hKp
 rw [setRow_self _ _ _ 153 (0, 0) hx2]
 refine nx (hK13 _ _ ?_)
 refine wp_ret ?_
 refine ret_c rfl hf s2 hx2 Tryz.underlying153 rfl (by rw [lcs_size hnl]; kernel_rfl) ⟨?_, hb2⟩
 rfl))
end Dw
end Go.Proofs.YtdkbgbdgmihlmaaGreatDoor
