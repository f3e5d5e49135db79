/- vary: Size, Put. -/
import Derived.Test.YtdkbgbdgmihlmaaGreatDoorPLay
import Derived.Test.YtdkbgbdgmihlmaaGreatDoorQA
import Derived.Test.YtdkbgbdgmihlmaaGreatDoorTools
namespace Go.Proofs.YtdkbgbdgmihlmaaGreatDoor
open Go.RowKit
set_option linter.unusedSimpArgs false
set_option linter.unusedVariables false
set_option linter.unnecessarySimpa false
namespace Dw

theorem slice9 (W : World) (g k : Nat) (hk : k ≤ 9) : (Instr.sliceAt 151 (.pointer (some ⟨g, 0, none⟩)) none (some (.int .i64 (k : Int))) none).run Tryz.prog W = .ok (.slice (some ⟨g, 0, none⟩) k 9) W := by
  have ha : Tryz.prog.arrayLen 151 = 9 := by kernel_rfl
  have hs : ∀ W : World, (sizeOf (Tryz.prog.elem 151)).run Tryz.prog W = .ok 1 W := fun W => by kernel_rfl
  rw [run_sliceAt_array_h (P := Tryz.prog) W 151 ⟨g, 0, none⟩ (by kernel_rfl) .i64 (k : Int) (by omega) (by rw [ha]; omega), hs, ha]
  simp [slicedAt, Result.andThen, Addr.add]

theorem nine_of {l : List Nat} (h : l.length = 9) : ∃ x0 x1 x2 x3 x4 x5 x6 x7 x8, l = [x0, x1, x2, x3, x4, x5, x6, x7, x8] := by
  match l, h with
  | [x0, x1, x2, x3, x4, x5, x6, x7, x8], _ => exact ⟨x0, x1, x2, x3, x4, x5, x6, x7, x8, rfl⟩
theorem lcs_nine {x0 x1 x2 x3 x4 x5 x6 x7 x8 k : Nat} : (lcs [x0, x1, x2, x3, x4, x5, x6, x7, x8] k).toArray = #[.int .u8 x0, .int .u8 x1, .int .u8 x2, .int .u8 x3, .int .u8 x4, .int .u8 x5, .int .u8 x6, .int .u8 x7, .int .u8 x8, .int .i64 k] := rfl
theorem numP_get {n i : Nat} (h : i < (numB n).length) : (numP n)[i]? = (numB n)[i]? := by
  unfold numP
  rw [List.getElem?_append_left h]
theorem numP_cell {w : World} {g n j : Nat} {u : Value} {t : TypeId} (h : w.heap[g]? = some (.cells (lcs (numP n) (numB n).length).toArray t (0, 0))) (hu : (bcs (numB n))[j]? = some u) : w.cell? ⟨g, j, none⟩ = some u := by
  have hj : j < (numB n).length := by have := (List.getElem?_eq_some_iff.1 hu).1; rwa [bcs_length] at this
  unfold bcs at hu
  rw [List.getElem?_map, List.getElem?_eq_getElem hj] at hu
  injection hu with hu
  rw [← hu]
  exact lcs_at h (by rw [numP_get hj, List.getElem?_eq_getElem hj])
theorem numsB_len0 : ∀ (l : List Nat), (∀ n ∈ l, n < M64) → (numsB l).length ≤ 9 * l.length
  | [], _ => by simp [numsB]
  | x :: l, h => by
    have h1 := numsB_len0 l (fun n hn => h n (List.mem_cons_of_mem _ hn))
    have h2 := numB_le (h x (List.mem_cons_self ..))
    have e : numsB (x :: l) = numB x ++ numsB l := by simp [numsB]
    rw [e, List.length_append, List.length_cons]
    omega
theorem numsB_length (l : List Nat) (i : Nat) (h : ∀ n ∈ l, n < M64) : (numsB (l.take i)).length ≤ 9 * l.length := by
  have := numsB_len0 (l.take i) (fun n hn => h n (List.mem_of_mem_take hn))
  have h2 : (l.take i).length ≤ l.length := by simp; omega
  omega
theorem lay67 (n : Nat) (hn : n < M64) (w : World) : Calls Tryz.prog 66 #[.int .u64 n] w fun e w1 => e = .returned (.agg (lcs (numP n) (numB n).length).toArray) ∧ Below w.heap.size w w1 := by
  rcases Nat.lt_or_ge n 248 with h | h
  · exact lay_small w n h
  · exact lay_big w n h hn

set_option maxHeartbeats 4000000 in
set_option maxRecDepth 100000 in
theorem size85 (w : World) (n : Nat) (hn : n < M64) : Calls Tryz.prog 82 #[.int .u64 n] w fun e w1 => e = .returned (.int .i64 (numB n).length) ∧ Below w.heap.size w w1 := by
 refine calls_of_wp Tryz.func82 rfl ?_
 refine Fact.en 6 fun fr hf hT => ?_
 have s0 := hT 0 _ rfl
 clear hT
 refine Fact.sq fun K1 hK1 => ?_
 refine rg ?_
 refine fp fun K Z => ?_
 go_simp
 apply Z.out; clear Z K
 refine Fact.z hf fun fr1 hf1 hT => ?_
 have hKp := hT 0
 simp (decide := true) only [Fact.G, reduceIte, s0] at hKp
 replace hf := hf1; clear hT hf1 s0
 have s0 := hKp; clear hKp
 refine nx (hK1 _ _ ?_)
 refine Fact.sq fun K2 hK2 => ?_
 refine rg ?_
 have b3 := hf.b 3
 have b4 := hf.b 4
 have b5 := hf.b 5
 refine fp fun K Z => ?_
 go_simp
 apply Z.out; clear Z K
 refine fp fun K Z => ?_
 go_simp
 go_at_call 66; refine (lay67 n hn w).mono ?_; rintro e w1 ⟨rfl, hb1⟩
 obtain ⟨x0, x1, x2, x3, x4, x5, x6, x7, x8, hx⟩ := nine_of (numP_length hn)
 rw [hx, lcs_nine]
 clear hx
 try dsimp only
 apply Z.out; clear Z K
 iterate 2 (refine fp fun K Z => ?_; go_simp; apply Z.out; clear Z K)
 refine Fact.z hf fun fr1 hf1 hT => ?_
 have hKp := hT 2
 simp (decide := true) only [Fact.G, hf.size, reduceIte] at hKp
 replace hf := hf1; clear hT hf1 s0 b3 b4 b5
 have s2 := hKp; clear hKp
 refine nx (hK2 _ _ ?_)
 refine wp_ret ?_
 exact Fact.ret1 rfl hf s2 ⟨rfl, hb1⟩
set_option maxHeartbeats 4000000 in
set_option maxRecDepth 100000 in
theorem put48 (w : World) (ns : List Nat) (v : Value) (hrn : RN w w.heap.size v ns) (hlen : ns.length ≤ 1000) (hsm : ∀ n ∈ ns, n < M64) : Calls Tryz.prog 46 #[v] w fun e w1 => e = .returned (.string (bl (numsB ns))) ∧ Below w.heap.size w w1 := by
 refine calls_of_wp Tryz.func46 rfl ?_
 refine Fact.en 24 fun fr hf hT => ?_
 have s0 := hT 0 _ rfl
 clear hT
 have hrn0 := hrn
 obtain ⟨A, cc, rfl⟩ := hrn.form
 clear hrn
 have HSM := Lib.hid hsm; clear hsm
 refine Fact.sq fun K1 hK1 => ?_
 refine rg ?_
 refine fp fun K Z => ?_
 go_simp
 apply Z.out; clear Z K
 refine Fact.z hf fun fr1 hf1 hT => ?_
 have hKp := hT 0
 simp (decide := true) only [Fact.G, reduceIte, s0] at hKp
 replace hf := hf1; clear hT hf1 s0
 have s0 := hKp; clear hKp
 refine nx (hK1 _ _ ?_)
 refine Fact.sq fun K2 hK2 => ?_
 refine rg ?_
 refine fp fun K Z => ?_
 go_simp
 apply Z.out; clear Z K
 refine Fact.z hf fun fr1 hf1 hT => ?_
 have hKp : _ ∧ _ := ⟨hT 0, hT 3⟩
 simp (decide := true) only [Fact.G, hf.size, reduceIte, s0] at hKp
 replace hf := hf1; clear hT hf1 s0
 obtain ⟨s0, s3⟩ := hKp
 refine nx (hK2 _ _ ?_)
 refine Fact.sq fun K3 hK3 => ?_
 refine Fact.sq fun K4 hK4 => ?_
 refine rg ?_
 have b7 := hf.b 7
 iterate 3 (refine fp fun K Z => ?_; go_simp; apply Z.out; clear Z K)
 refine Fact.z hf fun fr1 hf1 hT => ?_
 have hKp : _ ∧ _ ∧ _ ∧ _ := ⟨hT 3, hT 7, hT 8, hT 9⟩
 simp (decide := true) only [Fact.G, hf.size, reduceIte, s3] at hKp
 replace hf := hf1; clear hT hf1 s0 s3 b7
 obtain ⟨s3, s7, s8, s9⟩ := hKp
 refine nx (hK4 _ _ ?_)
 refine wp_block ?_
 refine wp_loop_ghost (fun gk fr wr => ∃ (i : Nat) (Vb : Value), gk = ns.length - i ∧ i ≤ ns.length ∧ Fact.Fr 24 fr ∧ fr.tmps[7]? = some (.slice A ns.length cc) ∧ fr.tmps[8]? = some (.int .i64 ns.length) ∧ fr.tmps[9]? = some (.int .i64 i) ∧ fr.tmps[3]? = some Vb ∧ OB wr w.heap.size Vb (numsB (ns.take i)) ∧ Below w.heap.size w wr) (ns.length) ?_ ?_
 · (
 exact ⟨0, _, rfl, Nat.zero_le _, hf, s7, s8, s9, s3, OB.nil_ _ _, Below.refl _ _⟩)
 · (
 clear hf s3 s7 s8 s9
 rintro gk fr wr ⟨i, Vb, hk, hi, hf, s7, s8, s9, s3, how, hb⟩
 have HK := Lib.hid hk; clear hk
 refine Fact.sq fun K5 hK5 => ?_
 refine rg ?_
 refine fp fun K Z => ?_
 go_simp
 apply Z.out; clear Z K
 refine Fact.z hf fun fr1 hf1 hT => ?_
 have hKp : _ ∧ _ ∧ _ ∧ _ ∧ _ := ⟨hT 3, hT 7, hT 8, hT 9, hT 10⟩
 simp (decide := true) only [Fact.G, hf.size, reduceIte, s3, s7, s8, s9] at hKp
 replace hf := hf1; clear hT hf1 s3 s7 s8 s9
 obtain ⟨s3, s7, s8, s9, s10⟩ := hKp
 refine nx (hK5 _ _ ?_)
 refine Fact.sq fun K6 hK6 => ?_
 refine Fact.cond_s s10 (fun hq => ?_) (fun hq => ?_)
 · (
 have hlt : i < ns.length := by have h9 := of_decide_eq_true hq; omega
 clear hq
 obtain ⟨n, hin⟩ : ∃ n, ns[i]? = some n := ⟨_, List.getElem?_eq_getElem hlt⟩
 obtain ⟨b, off, rfl, hbB, c0⟩ := (hrn0.below hb).at_ hin
 have hn := HSM.out n (List.mem_of_getElem? hin)
 have hst := numsB_take hin
 obtain ⟨xs, hxs⟩ : ∃ x, numsB (ns.take i) = x := ⟨_, rfl⟩
 have hxl : xs.length ≤ 9 * ns.length := by rw [← hxs]; exact numsB_length ns i HSM.out
 rw [hxs] at how hst
 have HST := Lib.hid hst; have HXS := Lib.hid hxs; have HIN := Lib.hid hin; clear hst hxs hin
 obtain ⟨A5, c5, hv5, _⟩ := row_form how
 subst hv5
 have hnl := numP_length hn
 have hn9 := numB_le hn
 refine wp_skip ?_
 refine nx (hK6 _ _ ?_)
 refine Fact.sq fun K7 hK7 => ?_
 refine wp_block ?_
 refine Fact.sq fun K8 hK8 => ?_
 refine rg ?_
 have b11 := hf.b 11
 have b12 := hf.b 12
 refine fp fun K Z => ?_
 go_simp
 try rw [if_pos (by omega)]
 apply Z.out; clear Z K
 iterate 2 (refine fp fun K Z => ?_; go_simp; apply Z.out; clear Z K)
 refine Fact.z hf fun fr1 hf1 hT => ?_
 have hKp : _ ∧ _ ∧ _ ∧ _ ∧ _ := ⟨hT 3, hT 5, hT 7, hT 8, hT 9⟩
 simp (decide := true) only [Fact.G, hf.size, reduceIte, s3, s7, s8, s9] at hKp
 replace hf := hf1; clear hT hf1 s3 s7 s8 s9 s10 b11 b12
 obtain ⟨s3, s5, s7, s8, s9⟩ := hKp
 refine nx (hK8 _ _ ?_)
 refine Fact.sq fun K9 hK9 => ?_
 refine rg ?_
 have b13 := hf.b 13
 have b14 := hf.b 14
 have b6 := hf.b 6
 refine fp fun K Z => ?_
 go_simp
 apply Z.out; clear Z K
 refine fp fun K Z => ?_
 go_simp
 go_at_call 66; refine (lay67 n hn wr).mono ?_; rintro e w2 ⟨rfl, hb2⟩
 have how2 := own_later how hb2
 have hb02 := hb.trans (hb2.mono hb.size)
 try dsimp only
 apply Z.out; clear Z K
 refine fp fun K Z => ?_
 go_simp
 apply Z.out; clear Z K
 refine Fact.reL (n := 24) (by simp only [Fact.G, hf.size]) hf.defers (fun fr1 hf1 hT => ?_)
 have hKp : _ ∧ _ ∧ _ ∧ _ ∧ _ ∧ _ := ⟨hT 3, hT 6, hT 7, hT 8, hT 9, hT 14⟩
 simp (decide := true) only [Fact.G, hf.size, reduceIte, s3, s7, s8, s9] at hKp
 replace hf := hf1; clear hT hf1 s3 s5 s7 s8 s9 b13 b14 b6
 obtain ⟨s3, s6, s7, s8, s9, s14⟩ := hKp
 refine ⟨?_⟩
 refine wpList_plain rfl fun KL hKL => ?_
 refine wp_store_row 153 _ _ rfl w2.heap.size _ (Fact.eval_tmp s6) (Fact.eval_tmp s14) 153 _ (heap_alloc_new w2 _) (by rw [lcs_size hnl]; kernel_rfl) (by rw [lcs_size hnl]; rfl) (lcs_one _ _) (hKL _ _ ?_)
 rw [World.setRow_alloc_new]
 refine Fact.L.out ?_
 refine Fact.z hf fun fr1 hf1 hT => ?_
 have hKp : _ ∧ _ ∧ _ ∧ _ ∧ _ := ⟨hT 3, hT 6, hT 7, hT 8, hT 9⟩
 simp (decide := true) only [Fact.G, reduceIte, s3, s6, s7, s8, s9] at hKp
 replace hf := hf1; clear hT hf1 s3 s6 s7 s8 s9 s14
 obtain ⟨s3, s6, s7, s8, s9⟩ := hKp
 obtain ⟨W3, hW3⟩ : ∃ x, w2.alloc (.cells (lcs (numP n) (numB n).length).toArray 153) = x := ⟨_, rfl⟩
 rw [hW3]
 have hx3 : W3.heap[w2.heap.size]? = some (.cells (lcs (numP n) (numB n).length).toArray 153 (0, 0)) := by rw [← hW3]; exact heap_alloc_new w2 _
 have hb3 : Below w2.heap.size w2 W3 := by rw [← hW3]; exact (Below.refl _ _).alloc (Nat.le_refl _) _
 clear hW3
 have how3 := own_later how2 hb3
 have hb03 := hb02.trans (hb3.mono hb02.size)
 have z9 := lcs_last hx3 hnl
 have hsl := slice9 W3 w2.heap.size (numB n).length hn9.2
 refine nx (hK9 _ _ ?_)
 refine rg ?_
 have b15 := hf.b 15
 have b16 := hf.b 16
 have b17 := hf.b 17
 have b18 := hf.b 18
 have b19 := hf.b 19
 have b20 := hf.b 20
 iterate 5 (refine fp fun K Z => ?_; go_simp; apply Z.out; clear Z K)
 refine Fact.reL (n := 24) (by simp only [Fact.G, hf.size]) hf.defers (fun fr1 hf1 hT => ?_)
 have hKp : _ ∧ _ ∧ _ ∧ _ ∧ _ ∧ _ := ⟨hT 3, hT 7, hT 8, hT 9, hT 15, hT 19⟩
 simp (decide := true) only [Fact.G, hf.size, reduceIte, s3, s7, s8, s9] at hKp
 replace hf := hf1; clear hT hf1 s3 s6 s7 s8 s9 b15 b16 b17 b18 b19 b20
 obtain ⟨s3, s7, s8, s9, s15, s19⟩ := hKp
 have b20 := hf.b 20
 refine ⟨?_⟩
 refine wpList_plain rfl fun KL hKL => ?_
 refine wp_apps _ _ 23 rfl 5 _ 1 1 Tryz.underlying23 info_u8 rfl (by decide) (by decide) w.heap.size (.slice A5 xs.length c5) xs.length _ (Fact.eval_tmp s15) how3 _ (numB n).length 9 (bcs (numB n)) (Fact.eval_tmp s19) (by rw [bcs_length, Nat.mul_one]) (fun _ => ⟨w2.heap.size, 0, rfl, fun j u hu => by rw [Nat.zero_add]; exact numP_cell hx3 hu⟩) (bcs_one _) (by omega) hb03.size (fun v8 w8 hr8 hg8 hat8 => hKL _ _ ?_)
 refine Fact.L.out ?_
 refine fp fun K Z => ?_
 go_simp
 apply Z.out; clear Z K
 refine Fact.z hf fun fr1 hf1 hT => ?_
 have hKp : _ ∧ _ ∧ _ ∧ _ := ⟨hT 3, hT 7, hT 8, hT 9⟩
 simp (decide := true) only [Fact.G, hf.size, reduceIte, s7, s8, s9] at hKp
 replace hf := hf1; clear hT hf1 s3 s7 s8 s9 s15 s19 b20
 obtain ⟨s3, s7, s8, s9⟩ := hKp
 have hb8 := hb03.grown hg8 hb03.size (fun kk hkk => (World.ownsRow.lt how3 kk hkk).1)
 have how8 : OB w8 w.heap.size v8 (numsB (ns.take (i + 1))) := by rw [HST.out]; unfold OB; rw [bcs_append, List.length_append]; exact hr8
 refine Fact.block_normal ?_
 refine nx (hK7 _ _ ?_)
 refine rg ?_
 have b21 := hf.b 21
 refine fp fun K Z => ?_
 go_simp
 try simp (disch := omega) only [Fact.W]
 apply Z.out; clear Z K
 refine fp fun K Z => ?_
 go_simp
 apply Z.out; clear Z K
 refine Fact.z hf fun fr1 hf1 hT => ?_
 have hKp : _ ∧ _ ∧ _ ∧ _ := ⟨hT 3, hT 7, hT 8, hT 9⟩
 simp (decide := true) only [Fact.G, hf.size, reduceIte, s3, s7, s8] at hKp
 replace hf := hf1; clear hT hf1 s3 s7 s8 s9 b21
 obtain ⟨s3, s7, s8, s9⟩ := hKp
 refine Fact.then_normal ?_
 exact ⟨_, by have := HK.out; omega, i + 1, v8, rfl, by omega, hf, s7, s8, by rw [s9]; rfl, s3, how8, hb8⟩)
 · (
 have hie : i = ns.length := by have h9 := of_decide_eq_false hq; omega
 rw [hie, List.take_length] at how
 clear hq hie
 have hcv := OB.conv how
 refine wp_exit ?_
 refine Fact.then_exit ?_
 refine Fact.then_exit ?_
 refine Fact.block_exit ?_
 refine nx (hK3 _ _ ?_)
 refine Fact.sq fun K10 hK10 => ?_
 refine rg ?_
 have b22 := hf.b 22
 have b23 := hf.b 23
 iterate 3 (refine fp fun K Z => ?_; go_simp; apply Z.out; clear Z K)
 refine Fact.z hf fun fr1 hf1 hT => ?_
 have hKp := hT 2
 simp (decide := true) only [Fact.G, hf.size, reduceIte] at hKp
 replace hf := hf1; clear hT hf1 s3 s7 s8 s9 s10 b22 b23
 have s2 := hKp; clear hKp
 refine nx (hK10 _ _ ?_)
 refine wp_ret ?_
 exact Fact.ret1 rfl hf s2 ⟨rfl, hb⟩))
end Dw
end Go.Proofs.YtdkbgbdgmihlmaaGreatDoor
