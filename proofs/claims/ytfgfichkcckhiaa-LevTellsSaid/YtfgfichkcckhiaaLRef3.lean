/- Lev: the document: other, Bytes. -/
import Derived.Test.YtfgfichkcckhiaaLRef2
namespace Go.Proofs.Ytfgfichkcckhiaa
open Go.RowKit
set_option linter.unusedSimpArgs false
set_option linter.unusedVariables false
set_option linter.unnecessarySimpa false
namespace Lv
theorem cast_beq (a b : Nat) : ((a : Int) == (b : Int)) = (a == b) := by rw [Bool.eq_iff_iff, beq_iff_eq, beq_iff_eq]; omega
set_option maxHeartbeats 4000000 in
set_option maxRecDepth 100000 in
theorem rother51 (q : ByteArray) (k : Nat) (hq0 : q.size ≤ 255) (hk3 : k ≤ 3) (S : ByteArray) (w : World) : Calls Try.prog 51 #[.agg #[.string q, .int .i64 k], .string S] w fun e w1 => e = .returned (.tuple #[.string (awayS q k S), .bool true]) ∧ Below w.heap.size w w1 := by
 refine calls_of_wp Try.func51 rfl ?_
 refine Fact.enter (n := 37) (by kernel_rfl) (fun fr hf hT => ?_)
 have s0 := hT 0 _ rfl
 have s1 := hT 1 _ rfl
 clear hT
 obtain ⟨W0, hW0⟩ : ∃ W0, w.alloc (.cells #[.string q, .int .i64 k] 31) = W0 := ⟨_, rfl⟩
 obtain ⟨x0, x1, hb0⟩ := auto_cells w q k W0 hW0
 refine wp_seq_k (fun K1 hK1 => ?_)
 refine Fact.region ?_
 refine Fact.p rfl fun K hK => ?_
 go_simp
 refine hK.out _ _ ?_; clear hK K
 refine Fact.p rfl fun K hK => ?_
 go_simp
 refine hK.out _ _ ?_; clear hK K
 refine Fact.p rfl fun K hK => ?_
 go_simp
 refine hK.out _ _ ?_; clear hK K
 refine Fact.nil ?_
 refine Fact.q hf (by simp only [Fact.G]) rfl fun fr1 hf1 hT => ?_
 have hKp : _ ∧ _ ∧ _ ∧ _ := ⟨hT 1, hT 2, hT 4, hT 5⟩
 simp only [Fact.G, Nat.reduceEqDiff, Nat.reduceLT, hf.size, reduceIte, s1] at hKp
 clear hT hf s0 s1
 obtain ⟨s1, s2, s4, s5⟩ := hKp
 have hf := hf1; clear hf1
 refine Fact.nx (hK1 _ _ ?_)
 try rw [hW0]
 clear hW0
 refine wp_seq_k (fun K2 hK2 => ?_)
 refine wp_seq_k (fun K3 hK3 => ?_)
 refine Fact.region ?_
 refine Fact.p rfl fun K hK => ?_
 go_simp
 refine hK.out _ _ ?_; clear hK K
 refine Fact.nil ?_
 refine Fact.q hf (by simp only [Fact.G]) rfl fun fr1 hf1 hT => ?_
 have hKp : _ ∧ _ ∧ _ ∧ _ ∧ _ := ⟨hT 1, hT 2, hT 4, hT 5, hT 6⟩
 simp only [Fact.G, Nat.reduceEqDiff, Nat.reduceLT, hf.size, reduceIte, s1, s2, s4, s5] at hKp
 clear hT hf s1 s2 s4 s5
 obtain ⟨s1, s2, s4, s5, s6⟩ := hKp
 have hf := hf1; clear hf1
 refine Fact.nx (hK3 _ _ ?_)
 refine wp_block ?_
 refine wp_loop_ghost (fun gk fr wr => ∃ b : Nat, gk = 256 - b ∧ b ≤ 256 ∧ (∀ c, c < b → inQ q c = true) ∧ Fact.Fr 37 fr ∧ fr.tmps[1]? = some (.string S) ∧ fr.tmps[2]? = some (.pointer (some ⟨w.heap.size, 0, none⟩)) ∧ fr.tmps[6]? = some (.int .i64 b) ∧ wr = W0) (256) ?_ ?_
 · (
 exact ⟨0, rfl, Nat.zero_le _, fun c hc => absurd hc (Nat.not_lt_zero c), hf, s1, s2, s6, rfl⟩)
 · (
 clear hf s1 s2 s4 s5 s6
 rintro gk fr wr ⟨b, hk, hb, hall, hf, s1, s2, s6, rfl⟩
 have HK := Lib.hid hk; have HALL := Lib.hid hall; clear hk hall
 refine wp_seq_k (fun K4 hK4 => ?_)
 refine wp_seq_k (fun K5 hK5 => ?_)
 refine Fact.region ?_
 have b9 := hf.l 9 rfl
 refine Fact.p rfl fun K hK => ?_
 go_simp
 refine hK.out _ _ ?_; clear hK K
 refine Fact.p rfl fun K hK => ?_
 go_simp
 refine hK.out _ _ ?_; clear hK K
 refine Fact.nil ?_
 refine Fact.q hf (by simp only [Fact.G]) rfl fun fr1 hf1 hT => ?_
 have hKp : _ ∧ _ ∧ _ ∧ _ ∧ _ := ⟨hT 1, hT 2, hT 6, hT 9, hT 10⟩
 simp only [Fact.G, Nat.reduceEqDiff, Nat.reduceLT, hf.size, reduceIte, s1, s2, s6] at hKp
 clear hT hf s1 s2 s6 b9
 obtain ⟨s1, s2, s6, s9, s10⟩ := hKp
 have hf := hf1; clear hf1
 refine Fact.nx (hK5 _ _ ?_)
 refine Fact.cond_s s10 (fun hq => ?_) (fun hq => ?_)
 · (
 have hbt : b < 256 := by have h9 := of_decide_eq_true hq; omega
 have e8 : IntKind.u8.wrap (b : Int) = (b : Int) := Fact.wrap_u8 (by omega) (by omega)
 have hatq : ∀ (j : Nat) (h : j < q.size), q[j].toNat = at_ q j := fun j h => (at_get h).symm
 refine wp_skip ?_
 refine Fact.nx (hK4 _ _ ?_)
 refine wp_seq_k (fun K6 hK6 => ?_)
 refine wp_block ?_
 refine wp_seq_k (fun K7 hK7 => ?_)
 refine Fact.region ?_
 refine Fact.p rfl fun K hK => ?_
 go_simp
 refine hK.out _ _ ?_; clear hK K
 refine Fact.nil ?_
 refine Fact.q hf (by simp only [Fact.G]) rfl fun fr1 hf1 hT => ?_
 have hKp : _ ∧ _ ∧ _ ∧ _ ∧ _ ∧ _ := ⟨hT 1, hT 2, hT 6, hT 7, hT 9, hT 10⟩
 simp only [Fact.G, Nat.reduceEqDiff, Nat.reduceLT, hf.size, reduceIte, s1, s2, s6, s9, s10] at hKp
 clear hT hf s1 s2 s6 s9 s10
 obtain ⟨s1, s2, s6, s7, s9, s10⟩ := hKp
 have hf := hf1; clear hf1
 refine Fact.nx (hK7 _ _ ?_)
 refine wp_seq_k (fun K8 hK8 => ?_)
 refine wp_seq_k (fun K9 hK9 => ?_)
 refine Fact.region ?_
 refine Fact.p rfl fun K hK => ?_
 go_simp
 refine hK.out _ _ ?_; clear hK K
 refine Fact.nil ?_
 refine Fact.q hf (by simp only [Fact.G]) rfl fun fr1 hf1 hT => ?_
 have hKp : _ ∧ _ ∧ _ ∧ _ ∧ _ ∧ _ ∧ _ := ⟨hT 1, hT 2, hT 6, hT 7, hT 8, hT 9, hT 10⟩
 simp only [Fact.G, Nat.reduceEqDiff, Nat.reduceLT, hf.size, reduceIte, s1, s2, s6, s7, s9, s10] at hKp
 clear hT hf s1 s2 s6 s7 s9 s10
 obtain ⟨s1, s2, s6, s7, s8, s9, s10⟩ := hKp
 have hf := hf1; clear hf1
 refine Fact.nx (hK9 _ _ ?_)
 refine wp_block ?_
 refine wp_loop_ghost (fun g2 fr wr2 => ∃ j : Nat, g2 = q.size - j ∧ j ≤ q.size ∧ Fact.Fr 37 fr ∧ fr.tmps[1]? = some (.string S) ∧ fr.tmps[2]? = some (.pointer (some ⟨w.heap.size, 0, none⟩)) ∧ fr.tmps[6]? = some (.int .i64 b) ∧ fr.tmps[7]? = some (.bool (inp q b j)) ∧ fr.tmps[8]? = some (.int .i64 j) ∧ wr2 = wr) (q.size) ?_ ?_
 · (
 exact ⟨0, rfl, Nat.zero_le _, hf, s1, s2, s6, s7, s8, rfl⟩)
 · (
 clear hf s1 s2 s6 s7 s8 s9 s10
 rintro g2 fr wr2 ⟨j, hk2, hj, hf, s1, s2, s6, s7, s8, rfl⟩
 have HK2 := Lib.hid hk2; clear hk2
 refine wp_seq_k (fun K10 hK10 => ?_)
 refine wp_seq_k (fun K11 hK11 => ?_)
 refine Fact.region ?_
 have b13 := hf.l 13 rfl
 have b14 := hf.l 14 rfl
 have b15 := hf.l 15 rfl
 have b16 := hf.l 16 rfl
 refine Fact.p rfl fun K hK => ?_
 go_simp
 refine hK.out _ _ ?_; clear hK K
 refine Fact.p rfl fun K hK => ?_
 go_simp
 refine hK.out _ _ ?_; clear hK K
 refine Fact.p rfl fun K hK => ?_
 go_simp
 refine hK.out _ _ ?_; clear hK K
 refine Fact.p rfl fun K hK => ?_
 go_simp
 refine hK.out _ _ ?_; clear hK K
 refine Fact.p rfl fun K hK => ?_
 go_simp
 refine hK.out _ _ ?_; clear hK K
 refine Fact.nil ?_
 refine Fact.q hf (by simp only [Fact.G]) rfl fun fr1 hf1 hT => ?_
 have hKp : _ ∧ _ ∧ _ ∧ _ ∧ _ ∧ _ ∧ _ ∧ _ ∧ _ ∧ _ := ⟨hT 1, hT 2, hT 6, hT 7, hT 8, hT 13, hT 14, hT 15, hT 16, hT 17⟩
 simp only [Fact.G, Nat.reduceEqDiff, Nat.reduceLT, hf.size, reduceIte, s1, s2, s6, s7, s8] at hKp
 clear hT hf s1 s2 s6 s7 s8 b13 b14 b15 b16
 obtain ⟨s1, s2, s6, s7, s8, s13, s14, s15, s16, s17⟩ := hKp
 have hf := hf1; clear hf1
 refine Fact.nx (hK11 _ _ ?_)
 refine Fact.cond_s s17 (fun hq2 => ?_) (fun hq2 => ?_)
 · (
 have hjt : j < q.size := by have h9 := of_decide_eq_true hq2; omega
 rcases hin : inp q b j with _ | _
 · (
 rw [hin] at s7
 refine wp_skip ?_
 refine Fact.nx (hK10 _ _ ?_)
 refine wp_seq_k (fun K12 hK12 => ?_)
 refine wp_block ?_
 refine Fact.region ?_
 have b20 := hf.l 20 rfl
 have b21 := hf.l 21 rfl
 have b22 := hf.l 22 rfl
 have b23 := hf.l 23 rfl
 have b24 := hf.l 24 rfl
 have b25 := hf.l 25 rfl
 have b26 := hf.l 26 rfl
 have b27 := hf.l 27 rfl
 have b28 := hf.l 28 rfl
 have b29 := hf.l 29 rfl
 refine Fact.p rfl fun K hK => ?_
 go_simp
 refine hK.out _ _ ?_; clear hK K
 refine Fact.p rfl fun K hK => ?_
 go_simp
 refine hK.out _ _ ?_; clear hK K
 refine Fact.op_guard (g := 1) (d := 21) (b := false) rfl rfl rfl ?_ (fun K hK => ?_)
 · (
 simp only [Fact.G, Nat.reduceEqDiff, Nat.reduceLT, reduceIte, hf.size])
 go_simp
 refine hK.out _ _ ?_; clear hK K
 refine Fact.op_guard (g := 1) (d := 21) (b := false) rfl rfl rfl ?_ (fun K hK => ?_)
 · (
 simp only [Fact.G, Nat.reduceEqDiff, Nat.reduceLT, reduceIte, hf.size])
 go_simp
 refine hK.out _ _ ?_; clear hK K
 refine Fact.op_guard (g := 1) (d := 21) (b := false) rfl rfl rfl ?_ (fun K hK => ?_)
 · (
 simp only [Fact.G, Nat.reduceEqDiff, Nat.reduceLT, reduceIte, hf.size])
 go_simp
 refine hK.out _ _ ?_; clear hK K
 refine Fact.op_guard (g := 1) (d := 21) (b := false) rfl rfl rfl ?_ (fun K hK => ?_)
 · (
 simp only [Fact.G, Nat.reduceEqDiff, Nat.reduceLT, reduceIte, hf.size])
 go_simp
 try rw [if_pos (by omega)]
 refine hK.out _ _ ?_; clear hK K
 refine Fact.op_guard (g := 1) (d := 21) (b := false) rfl rfl rfl ?_ (fun K hK => ?_)
 · (
 simp only [Fact.G, Nat.reduceEqDiff, Nat.reduceLT, reduceIte, hf.size])
 go_simp
 refine hK.out _ _ ?_; clear hK K
 refine Fact.op_guard (g := 1) (d := 21) (b := false) rfl rfl rfl ?_ (fun K hK => ?_)
 · (
 simp only [Fact.G, Nat.reduceEqDiff, Nat.reduceLT, reduceIte, hf.size])
 go_simp
 refine hK.out _ _ ?_; clear hK K
 refine Fact.op_guard (g := 1) (d := 21) (b := false) rfl rfl rfl ?_ (fun K hK => ?_)
 · (
 simp only [Fact.G, Nat.reduceEqDiff, Nat.reduceLT, reduceIte, hf.size])
 go_simp
 refine hK.out _ _ ?_; clear hK K
 refine Fact.p rfl fun K hK => ?_
 go_simp
 refine hK.out _ _ ?_; clear hK K
 refine Fact.p rfl fun K hK => ?_
 go_simp
 refine hK.out _ _ ?_; clear hK K
 refine Fact.nil ?_
 refine Fact.q hf (by simp only [Fact.G]) rfl fun fr1 hf1 hT => ?_
 have hKp : _ ∧ _ ∧ _ ∧ _ ∧ _ ∧ _ ∧ _ ∧ _ ∧ _ ∧ _ ∧ _ ∧ _ ∧ _ ∧ _ ∧ _ ∧ _ ∧ _ ∧ _ ∧ _ ∧ _ := ⟨hT 1, hT 2, hT 6, hT 7, hT 8, hT 13, hT 14, hT 15, hT 16, hT 17, hT 20, hT 21, hT 22, hT 23, hT 24, hT 25, hT 26, hT 27, hT 28, hT 29⟩
 simp only [Fact.G, Nat.reduceEqDiff, Nat.reduceLT, hf.size, reduceIte, s1, s2, s6, s8, s13, s14, s15, s16, s17] at hKp
 clear hT hf s1 s2 s6 s7 s8 s13 s14 s15 s16 s17 b20 b21 b22 b23 b24 b25 b26 b27 b28 b29
 obtain ⟨s1, s2, s6, s7, s8, s13, s14, s15, s16, s17, s20, s21, s22, s23, s24, s25, s26, s27, s28, s29⟩ := hKp
 have hf := hf1; clear hf1
 refine Fact.block_normal ?_
 refine Fact.nx (hK12 _ _ ?_)
 refine Fact.region ?_
 have b18 := hf.l 18 rfl
 have b19 := hf.l 19 rfl
 refine Fact.p rfl fun K hK => ?_
 go_simp
 refine hK.out _ _ ?_; clear hK K
 refine Fact.p rfl fun K hK => ?_
 go_simp
 try simp (disch := omega) only [Fact.wrap_i64, Fact.wrap_u8, Fact.wrap_u32, Fact.wrap_u64]
 refine hK.out _ _ ?_; clear hK K
 refine Fact.p rfl fun K hK => ?_
 go_simp
 refine hK.out _ _ ?_; clear hK K
 refine Fact.nil ?_
 refine Fact.q hf (by simp only [Fact.G]) rfl fun fr1 hf1 hT => ?_
 have hKp : _ ∧ _ ∧ _ ∧ _ ∧ _ ∧ _ ∧ _ ∧ _ ∧ _ ∧ _ ∧ _ ∧ _ ∧ _ ∧ _ ∧ _ ∧ _ ∧ _ ∧ _ ∧ _ ∧ _ ∧ _ ∧ _ := ⟨hT 1, hT 2, hT 6, hT 7, hT 8, hT 13, hT 14, hT 15, hT 16, hT 17, hT 18, hT 19, hT 20, hT 21, hT 22, hT 23, hT 24, hT 25, hT 26, hT 27, hT 28, hT 29⟩
 simp only [Fact.G, Nat.reduceEqDiff, Nat.reduceLT, hf.size, reduceIte, s1, s2, s6, s7, s13, s14, s15, s16, s17, s20, s21, s22, s23, s24, s25, s26, s27, s28, s29] at hKp
 clear hT hf s1 s2 s6 s7 s8 s13 s14 s15 s16 s17 s20 s21 s22 s23 s24 s25 s26 s27 s28 s29 b18 b19
 obtain ⟨s1, s2, s6, s7, s8, s13, s14, s15, s16, s17, s18, s19, s20, s21, s22, s23, s24, s25, s26, s27, s28, s29⟩ := hKp
 have hf := hf1; clear hf1
 refine Fact.then_normal ?_
 exact ⟨_, by have := HK2.out; omega, j + 1, rfl, by omega, hf, s1, s2, s6, by rw [inp, hin, ← cast_beq]; simpa using s7, by rw [s8]; rfl, rfl⟩)
 · (
 rw [hin] at s7
 refine wp_skip ?_
 refine Fact.nx (hK10 _ _ ?_)
 refine wp_seq_k (fun K13 hK13 => ?_)
 refine wp_block ?_
 refine Fact.region ?_
 have b20 := hf.l 20 rfl
 have b21 := hf.l 21 rfl
 have b22 := hf.l 22 rfl
 have b23 := hf.l 23 rfl
 have b24 := hf.l 24 rfl
 have b25 := hf.l 25 rfl
 have b26 := hf.l 26 rfl
 have b27 := hf.l 27 rfl
 have b28 := hf.l 28 rfl
 have b29 := hf.l 29 rfl
 refine Fact.p rfl fun K hK => ?_
 go_simp
 refine hK.out _ _ ?_; clear hK K
 refine Fact.p rfl fun K hK => ?_
 go_simp
 refine hK.out _ _ ?_; clear hK K
 refine Fact.op_skip (g := 1) (d := 21) (b := false) rfl rfl rfl ?_ ?_
 · (
 simp only [Fact.G, Nat.reduceEqDiff, Nat.reduceLT, reduceIte, hf.size, Bool.not_true, Bool.not_false])
 refine Fact.op_skip (g := 1) (d := 21) (b := false) rfl rfl rfl ?_ ?_
 · (
 simp only [Fact.G, Nat.reduceEqDiff, Nat.reduceLT, reduceIte, hf.size, Bool.not_true, Bool.not_false])
 refine Fact.op_skip (g := 1) (d := 21) (b := false) rfl rfl rfl ?_ ?_
 · (
 simp only [Fact.G, Nat.reduceEqDiff, Nat.reduceLT, reduceIte, hf.size, Bool.not_true, Bool.not_false])
 refine Fact.op_skip (g := 1) (d := 21) (b := false) rfl rfl rfl ?_ ?_
 · (
 simp only [Fact.G, Nat.reduceEqDiff, Nat.reduceLT, reduceIte, hf.size, Bool.not_true, Bool.not_false])
 refine Fact.op_skip (g := 1) (d := 21) (b := false) rfl rfl rfl ?_ ?_
 · (
 simp only [Fact.G, Nat.reduceEqDiff, Nat.reduceLT, reduceIte, hf.size, Bool.not_true, Bool.not_false])
 refine Fact.op_skip (g := 1) (d := 21) (b := false) rfl rfl rfl ?_ ?_
 · (
 simp only [Fact.G, Nat.reduceEqDiff, Nat.reduceLT, reduceIte, hf.size, Bool.not_true, Bool.not_false])
 refine Fact.op_skip (g := 1) (d := 21) (b := false) rfl rfl rfl ?_ ?_
 · (
 simp only [Fact.G, Nat.reduceEqDiff, Nat.reduceLT, reduceIte, hf.size, Bool.not_true, Bool.not_false])
 refine Fact.p rfl fun K hK => ?_
 go_simp
 refine hK.out _ _ ?_; clear hK K
 refine Fact.p rfl fun K hK => ?_
 go_simp
 refine hK.out _ _ ?_; clear hK K
 refine Fact.nil ?_
 refine Fact.q hf (by simp only [Fact.G]) rfl fun fr1 hf1 hT => ?_
 have hKp : _ ∧ _ ∧ _ ∧ _ ∧ _ ∧ _ ∧ _ ∧ _ ∧ _ ∧ _ ∧ _ ∧ _ ∧ _ ∧ _ ∧ _ ∧ _ ∧ _ ∧ _ ∧ _ ∧ _ := ⟨hT 1, hT 2, hT 6, hT 7, hT 8, hT 13, hT 14, hT 15, hT 16, hT 17, hT 20, hT 21, hT 22, hT 23, hT 24, hT 25, hT 26, hT 27, hT 28, hT 29⟩
 simp only [Fact.G, Nat.reduceEqDiff, Nat.reduceLT, hf.size, reduceIte, s1, s2, s6, s8, s13, s14, s15, s16, s17] at hKp
 clear hT hf s1 s2 s6 s7 s8 s13 s14 s15 s16 s17 b20 b21 b22 b23 b24 b25 b26 b27 b28 b29
 obtain ⟨s1, s2, s6, s7, s8, s13, s14, s15, s16, s17, s20, s21, s22, s23, s24, s25, s26, s27, s28, s29⟩ := hKp
 have hf := hf1; clear hf1
 refine Fact.block_normal ?_
 refine Fact.nx (hK13 _ _ ?_)
 refine Fact.region ?_
 have b18 := hf.l 18 rfl
 have b19 := hf.l 19 rfl
 refine Fact.p rfl fun K hK => ?_
 go_simp
 refine hK.out _ _ ?_; clear hK K
 refine Fact.p rfl fun K hK => ?_
 go_simp
 try simp (disch := omega) only [Fact.wrap_i64, Fact.wrap_u8, Fact.wrap_u32, Fact.wrap_u64]
 refine hK.out _ _ ?_; clear hK K
 refine Fact.p rfl fun K hK => ?_
 go_simp
 refine hK.out _ _ ?_; clear hK K
 refine Fact.nil ?_
 refine Fact.q hf (by simp only [Fact.G]) rfl fun fr1 hf1 hT => ?_
 have hKp : _ ∧ _ ∧ _ ∧ _ ∧ _ ∧ _ ∧ _ ∧ _ ∧ _ ∧ _ ∧ _ ∧ _ ∧ _ ∧ _ ∧ _ ∧ _ ∧ _ ∧ _ ∧ _ ∧ _ ∧ _ ∧ _ := ⟨hT 1, hT 2, hT 6, hT 7, hT 8, hT 13, hT 14, hT 15, hT 16, hT 17, hT 18, hT 19, hT 20, hT 21, hT 22, hT 23, hT 24, hT 25, hT 26, hT 27, hT 28, hT 29⟩
 simp only [Fact.G, Nat.reduceEqDiff, Nat.reduceLT, hf.size, reduceIte, s1, s2, s6, s7, s13, s14, s15, s16, s17, s20, s21, s22, s23, s24, s25, s26, s27, s28, s29] at hKp
 clear hT hf s1 s2 s6 s7 s8 s13 s14 s15 s16 s17 s20 s21 s22 s23 s24 s25 s26 s27 s28 s29 b18 b19
 obtain ⟨s1, s2, s6, s7, s8, s13, s14, s15, s16, s17, s18, s19, s20, s21, s22, s23, s24, s25, s26, s27, s28, s29⟩ := hKp
 have hf := hf1; clear hf1
 refine Fact.then_normal ?_
 exact ⟨_, by have := HK2.out; omega, j + 1, rfl, by omega, hf, s1, s2, s6, by rw [inp, hin, ← cast_beq]; simpa using s7, by rw [s8]; rfl, rfl⟩))
 · (
 have hje : j = q.size := by have h9 := of_decide_eq_false hq2; omega
 subst hje
 rw [inp_all] at s7
 rcases hin : inQ q b with _ | _
 · (
 rw [hin] at s7
 refine wp_exit ?_
 refine Fact.then_exit ?_
 refine Fact.then_exit ?_
 refine Fact.block_exit ?_
 refine Fact.nx (hK8 _ _ ?_)
 refine wp_seq_k (fun K14 hK14 => ?_)
 refine Fact.region ?_
 have b30 := hf.l 30 rfl
 refine Fact.p rfl fun K hK => ?_
 go_simp
 refine hK.out _ _ ?_; clear hK K
 refine Fact.p rfl fun K hK => ?_
 go_simp
 refine hK.out _ _ ?_; clear hK K
 refine Fact.nil ?_
 refine Fact.q hf (by simp only [Fact.G]) rfl fun fr1 hf1 hT => ?_
 have hKp : _ ∧ _ ∧ _ ∧ _ ∧ _ ∧ _ ∧ _ ∧ _ ∧ _ ∧ _ ∧ _ ∧ _ := ⟨hT 1, hT 2, hT 6, hT 7, hT 8, hT 13, hT 14, hT 15, hT 16, hT 17, hT 30, hT 31⟩
 simp only [Fact.G, Nat.reduceEqDiff, Nat.reduceLT, hf.size, reduceIte, s1, s2, s6, s7, s8, s13, s14, s15, s16, s17] at hKp
 clear hT hf s1 s2 s6 s7 s8 s13 s14 s15 s16 s17 b30
 obtain ⟨s1, s2, s6, s7, s8, s13, s14, s15, s16, s17, s30, s31⟩ := hKp
 have hf := hf1; clear hf1
 refine Fact.nx (hK14 _ _ ?_)
 try simp only [Bool.not_true, Bool.not_false] at s31
 refine Fact.cond_t s31 ?_
 refine wp_seq_k (fun K15 hK15 => ?_)
 refine Fact.region ?_
 have b32 := hf.l 32 rfl
 have b33 := hf.l 33 rfl
 have b34 := hf.l 34 rfl
 have b35 := hf.l 35 rfl
 have b36 := hf.l 36 rfl
 refine Fact.p rfl fun K hK => ?_
 go_simp
 refine hK.out _ _ ?_; clear hK K
 refine Fact.p rfl fun K hK => ?_
 go_simp
 refine hK.out _ _ ?_; clear hK K
 refine Fact.p rfl fun K hK => ?_
 go_simp
 refine hK.out _ _ ?_; clear hK K
 refine Fact.p rfl fun K hK => ?_
 go_simp
 refine hK.out _ _ ?_; clear hK K
 refine Fact.p rfl fun K hK => ?_
 go_simp
 go_at_call 17; refine (rstep17 q k hq0 hk3 S b wr2).mono ?_; rintro e w9 ⟨rfl, h9⟩
 rw [away_first hbt hin HALL.out]
 dsimp only
 refine hK.out _ _ ?_; clear hK K
 refine Fact.p rfl fun K hK => ?_
 go_simp
 refine hK.out _ _ ?_; clear hK K
 refine Fact.p rfl fun K hK => ?_
 go_simp
 refine hK.out _ _ ?_; clear hK K
 refine Fact.nil ?_
 refine Fact.q hf (by simp only [Fact.G]) rfl fun fr1 hf1 hT => ?_
 have hKp : _ ∧ _ ∧ _ ∧ _ ∧ _ ∧ _ ∧ _ ∧ _ ∧ _ ∧ _ ∧ _ ∧ _ ∧ _ ∧ _ ∧ _ ∧ _ ∧ _ ∧ _ ∧ _ := ⟨hT 1, hT 2, hT 4, hT 5, hT 6, hT 7, hT 8, hT 13, hT 14, hT 15, hT 16, hT 17, hT 30, hT 31, hT 32, hT 33, hT 34, hT 35, hT 36⟩
 simp only [Fact.G, Nat.reduceEqDiff, Nat.reduceLT, hf.size, reduceIte, s1, s2, s6, s7, s8, s13, s14, s15, s16, s17, s30, s31] at hKp
 clear hT hf s1 s2 s6 s7 s8 s13 s14 s15 s16 s17 s30 s31 b32 b33 b34 b35 b36
 obtain ⟨s1, s2, s4, s5, s6, s7, s8, s13, s14, s15, s16, s17, s30, s31, s32, s33, s34, s35, s36⟩ := hKp
 have hf := hf1; clear hf1
 refine Fact.nx (hK15 _ _ ?_)
 refine wp_ret ?_
 refine Fact.block_ret ?_
 refine Fact.then_ret ?_
 refine Fact.then_ret ?_
 refine Fact.block_ret ?_
 refine Fact.then_ret ?_
 exact Fact.ret2 rfl hf s4 s5 ⟨rfl, hb0.trans (h9.mono hb0.size)⟩)
 · (
 rw [hin] at s7
 refine wp_exit ?_
 refine Fact.then_exit ?_
 refine Fact.then_exit ?_
 refine Fact.block_exit ?_
 refine Fact.nx (hK8 _ _ ?_)
 refine wp_seq_k (fun K16 hK16 => ?_)
 refine Fact.region ?_
 have b30 := hf.l 30 rfl
 refine Fact.p rfl fun K hK => ?_
 go_simp
 refine hK.out _ _ ?_; clear hK K
 refine Fact.p rfl fun K hK => ?_
 go_simp
 refine hK.out _ _ ?_; clear hK K
 refine Fact.nil ?_
 refine Fact.q hf (by simp only [Fact.G]) rfl fun fr1 hf1 hT => ?_
 have hKp : _ ∧ _ ∧ _ ∧ _ ∧ _ ∧ _ ∧ _ ∧ _ ∧ _ ∧ _ ∧ _ ∧ _ := ⟨hT 1, hT 2, hT 6, hT 7, hT 8, hT 13, hT 14, hT 15, hT 16, hT 17, hT 30, hT 31⟩
 simp only [Fact.G, Nat.reduceEqDiff, Nat.reduceLT, hf.size, reduceIte, s1, s2, s6, s7, s8, s13, s14, s15, s16, s17] at hKp
 clear hT hf s1 s2 s6 s7 s8 s13 s14 s15 s16 s17 b30
 obtain ⟨s1, s2, s6, s7, s8, s13, s14, s15, s16, s17, s30, s31⟩ := hKp
 have hf := hf1; clear hf1
 refine Fact.nx (hK16 _ _ ?_)
 try simp only [Bool.not_true, Bool.not_false] at s31
 refine Fact.cond_f s31 ?_
 refine wp_skip ?_
 refine Fact.block_normal ?_
 refine Fact.nx (hK6 _ _ ?_)
 refine Fact.region ?_
 have b11 := hf.l 11 rfl
 have b12 := hf.l 12 rfl
 refine Fact.p rfl fun K hK => ?_
 go_simp
 refine hK.out _ _ ?_; clear hK K
 refine Fact.p rfl fun K hK => ?_
 go_simp
 try simp (disch := omega) only [Fact.wrap_i64, Fact.wrap_u8, Fact.wrap_u32, Fact.wrap_u64]
 refine hK.out _ _ ?_; clear hK K
 refine Fact.p rfl fun K hK => ?_
 go_simp
 refine hK.out _ _ ?_; clear hK K
 refine Fact.nil ?_
 refine Fact.q hf (by simp only [Fact.G]) rfl fun fr1 hf1 hT => ?_
 have hKp : _ ∧ _ ∧ _ ∧ _ ∧ _ ∧ _ ∧ _ ∧ _ ∧ _ ∧ _ ∧ _ ∧ _ ∧ _ ∧ _ := ⟨hT 1, hT 2, hT 6, hT 7, hT 8, hT 11, hT 12, hT 13, hT 14, hT 15, hT 16, hT 17, hT 30, hT 31⟩
 simp only [Fact.G, Nat.reduceEqDiff, Nat.reduceLT, hf.size, reduceIte, s1, s2, s7, s8, s13, s14, s15, s16, s17, s30, s31] at hKp
 clear hT hf s1 s2 s6 s7 s8 s13 s14 s15 s16 s17 s30 s31 b11 b12
 obtain ⟨s1, s2, s6, s7, s8, s11, s12, s13, s14, s15, s16, s17, s30, s31⟩ := hKp
 have hf := hf1; clear hf1
 refine Fact.then_normal ?_
 exact ⟨_, by have := HK.out; omega, b + 1, rfl, by omega, in_more HALL.out hin, hf, s1, s2, by rw [s6]; rfl, rfl⟩))))
 · (
 have hbe : b = 256 := by have h9 := of_decide_eq_false hq; omega
 subst hbe
 exact absurd HALL.out (all_in hq0)))
set_option maxHeartbeats 4000000 in
set_option maxRecDepth 100000 in
theorem rbytes32 (q : ByteArray) (k : Nat) (hq0 : q.size ≤ 255) (hk3 : k ≤ 3) (S : ByteArray) (w : World) : Calls Try.prog 32 #[.agg #[.string q, .int .i64 k], .string S] w fun e w1 => ∃ v, e = .returned (.tuple #[v, .bool (moreS q k S)]) ∧ OB w1 w.heap.size v (bytesS q k S) ∧ Below w.heap.size w w1 := by
 refine calls_of_wp Try.func32 rfl ?_
 refine Fact.enter (n := 70) (by kernel_rfl) (fun fr hf hT => ?_)
 have s0 := hT 0 _ rfl
 have s1 := hT 1 _ rfl
 clear hT
 obtain ⟨W0, hW0⟩ : ∃ W0, w.alloc (.cells #[.string q, .int .i64 k] 31) = W0 := ⟨_, rfl⟩
 obtain ⟨x0, x1, hb0⟩ := auto_cells w q k W0 hW0
 refine wp_seq_k (fun K1 hK1 => ?_)
 refine Fact.region ?_
 refine Fact.p rfl fun K hK => ?_
 go_simp
 refine hK.out _ _ ?_; clear hK K
 refine Fact.p rfl fun K hK => ?_
 go_simp
 refine hK.out _ _ ?_; clear hK K
 refine Fact.p rfl fun K hK => ?_
 go_simp
 refine hK.out _ _ ?_; clear hK K
 refine Fact.nil ?_
 refine Fact.q hf (by simp only [Fact.G]) rfl fun fr1 hf1 hT => ?_
 have hKp : _ ∧ _ ∧ _ ∧ _ := ⟨hT 1, hT 2, hT 4, hT 5⟩
 simp only [Fact.G, Nat.reduceEqDiff, Nat.reduceLT, hf.size, reduceIte, s1] at hKp
 clear hT hf s0 s1
 obtain ⟨s1, s2, s4, s5⟩ := hKp
 have hf := hf1; clear hf1
 refine Fact.nx (hK1 _ _ ?_)
 try rw [hW0]
 clear hW0
 refine wp_seq_k (fun K2 hK2 => ?_)
 refine Fact.region ?_
 refine Fact.p rfl fun K hK => ?_
 go_simp
 refine hK.out _ _ ?_; clear hK K
 refine Fact.nil ?_
 refine Fact.q hf (by simp only [Fact.G]) rfl fun fr1 hf1 hT => ?_
 have hKp : _ ∧ _ ∧ _ ∧ _ ∧ _ := ⟨hT 1, hT 2, hT 4, hT 5, hT 6⟩
 simp only [Fact.G, Nat.reduceEqDiff, Nat.reduceLT, hf.size, reduceIte, s1, s2, s4, s5] at hKp
 clear hT hf s1 s2 s4 s5
 obtain ⟨s1, s2, s4, s5, s6⟩ := hKp
 have hf := hf1; clear hf1
 refine Fact.nx (hK2 _ _ ?_)
 refine wp_seq_k (fun K3 hK3 => ?_)
 refine Fact.region ?_
 have b13 := hf.l 13 rfl
 have b14 := hf.l 14 rfl
 have b15 := hf.l 15 rfl
 have b12 := hf.l 12 rfl
 have b16 := hf.l 16 rfl
 have b17 := hf.l 17 rfl
 refine Fact.p rfl fun K hK => ?_
 go_simp
 refine hK.out _ _ ?_; clear hK K
 refine Fact.p rfl fun K hK => ?_
 go_simp
 refine hK.out _ _ ?_; clear hK K
 refine Fact.p rfl fun K hK => ?_
 go_simp
 go_at_call 51; refine (rother51 q k hq0 hk3 S W0).mono ?_; rintro e w1 ⟨rfl, h1⟩
 dsimp only
 refine hK.out _ _ ?_; clear hK K
 refine Fact.p rfl fun K hK => ?_
 go_simp
 refine hK.out _ _ ?_; clear hK K
 refine Fact.p rfl fun K hK => ?_
 go_simp
 refine hK.out _ _ ?_; clear hK K
 refine Fact.p rfl fun K hK => ?_
 go_simp
 refine hK.out _ _ ?_; clear hK K
 refine Fact.p rfl fun K hK => ?_
 go_simp
 refine hK.out _ _ ?_; clear hK K
 refine Fact.p rfl fun K hK => ?_
 go_simp
 refine hK.out _ _ ?_; clear hK K
 refine Fact.nil ?_
 refine Fact.q hf (by simp only [Fact.G]) rfl fun fr1 hf1 hT => ?_
 have hKp : _ ∧ _ ∧ _ ∧ _ ∧ _ ∧ _ ∧ _ := ⟨hT 1, hT 2, hT 4, hT 5, hT 6, hT 7, hT 8⟩
 simp only [Fact.G, Nat.reduceEqDiff, Nat.reduceLT, hf.size, reduceIte, s1, s2, s4, s5, s6] at hKp
 clear hT hf s1 s2 s4 s5 s6 b13 b14 b15 b12 b16 b17
 obtain ⟨s1, s2, s4, s5, s6, s7, s8⟩ := hKp
 have hf := hf1; clear hf1
 refine Fact.nx (hK3 _ _ ?_)
 refine wp_seq_k (fun K4 hK4 => ?_)
 refine wp_seq_k (fun K5 hK5 => ?_)
 refine Fact.region ?_
 refine Fact.p rfl fun K hK => ?_
 go_simp
 refine hK.out _ _ ?_; clear hK K
 refine Fact.nil ?_
 refine Fact.q hf (by simp only [Fact.G]) rfl fun fr1 hf1 hT => ?_
 have hKp : _ ∧ _ ∧ _ ∧ _ ∧ _ ∧ _ ∧ _ ∧ _ := ⟨hT 1, hT 2, hT 4, hT 5, hT 6, hT 7, hT 8, hT 9⟩
 simp only [Fact.G, Nat.reduceEqDiff, Nat.reduceLT, hf.size, reduceIte, s1, s2, s4, s5, s6, s7, s8] at hKp
 clear hT hf s1 s2 s4 s5 s6 s7 s8
 obtain ⟨s1, s2, s4, s5, s6, s7, s8, s9⟩ := hKp
 have hf := hf1; clear hf1
 refine Fact.nx (hK5 _ _ ?_)
 refine wp_block ?_
 have hb1 := hb0.trans (h1.mono hb0.size)
 have y0 := cell_later h1 x0; have y1 := cell_later h1 x1
 obtain ⟨V, hV⟩ : ∃ V, awayS q k S = V := ⟨_, rfl⟩
 have HV := Lib.hid hV
 rw [hV] at s7
 clear hV x0 x1 hb0 h1
 refine wp_loop_ghost (fun gk fr wr => ∃ (b : Nat) (v : Value), gk = 256 - b ∧ b ≤ 256 ∧ (okS q k S = false → b = 0) ∧ Fact.Fr 70 fr ∧ fr.tmps[1]? = some (.string S) ∧ fr.tmps[2]? = some (.pointer (some ⟨w.heap.size, 0, none⟩)) ∧ fr.tmps[6]? = some v ∧ fr.tmps[7]? = some (.string V) ∧ fr.tmps[8]? = some (.bool true) ∧ fr.tmps[9]? = some (.int .i64 b) ∧ OB wr w1.heap.size v (told q k S b) ∧ Below w1.heap.size w1 wr) (256) ?_ ?_
 · (
 exact ⟨0, _, rfl, Nat.zero_le _, fun _ => rfl, hf, s1, s2, s6, s7, s8, s9, OB.nil _ _, Below.refl _ _⟩)
 · (
 clear hf s1 s2 s4 s5 s6 s7 s8 s9
 rintro gk fr wr ⟨b, v, hk, hb, hz, hf, s1, s2, s6, s7, s8, s9, ho, hbr⟩
 have HK := Lib.hid hk; have HZ := Lib.hid hz; clear hk hz
 have z0 := cell_later hbr y0; have z1 := cell_later hbr y1
 have hbs := hbr.size
 rcases hos : okS q k S with _ | _
 · (
 have hb9 := HZ.out hos
 subst hb9
 have hfin : OB wr w1.heap.size v (bytesS q k S) := by rw [bytesS, hos]; exact ho
 have q1 : decide (((0 : Nat) : Int) < 256) = true := decide_eq_true (by omega)
 have q2 : decide ((0 : Int) < 256) = true := decide_eq_true (by omega)
 refine wp_seq_k (fun K6 hK6 => ?_)
 refine wp_seq_k (fun K7 hK7 => ?_)
 refine Fact.region ?_
 have b18 := hf.l 18 rfl
 have b19 := hf.l 19 rfl
 have b20 := hf.l 20 rfl
 have b21 := hf.l 21 rfl
 have b22 := hf.l 22 rfl
 have b23 := hf.l 23 rfl
 refine Fact.p rfl fun K hK => ?_
 go_simp
 refine hK.out _ _ ?_; clear hK K
 refine Fact.p rfl fun K hK => ?_
 go_simp
 refine hK.out _ _ ?_; clear hK K
 refine Fact.p rfl fun K hK => ?_
 go_simp
 refine hK.out _ _ ?_; clear hK K
 refine Fact.op_guard (g := 2) (d := 20) (b := true) rfl rfl rfl ?_ (fun K hK => ?_)
 · (
 simp only [Fact.G, Nat.reduceEqDiff, Nat.reduceLT, reduceIte, hf.size, q1, q2])
 go_simp
 refine hK.out _ _ ?_; clear hK K
 refine Fact.op_guard (g := 2) (d := 20) (b := true) rfl rfl rfl ?_ (fun K hK => ?_)
 · (
 simp only [Fact.G, Nat.reduceEqDiff, Nat.reduceLT, reduceIte, hf.size, q1, q2])
 go_simp
 refine hK.out _ _ ?_; clear hK K
 refine Fact.op_guard (g := 2) (d := 20) (b := true) rfl rfl rfl ?_ (fun K hK => ?_)
 · (
 simp only [Fact.G, Nat.reduceEqDiff, Nat.reduceLT, reduceIte, hf.size, q1, q2])
 go_simp
 go_at_call 36; refine (ris36 q k hq0 hk3 S wr).mono ?_; rintro e w3 ⟨rfl, h3⟩
 rw [hos]
 dsimp only
 refine hK.out _ _ ?_; clear hK K
 refine Fact.p rfl fun K hK => ?_
 go_simp
 refine hK.out _ _ ?_; clear hK K
 refine Fact.nil ?_
 refine Fact.q hf (by simp only [Fact.G]) rfl fun fr1 hf1 hT => ?_
 have hKp : _ ∧ _ ∧ _ ∧ _ ∧ _ ∧ _ ∧ _ ∧ _ ∧ _ ∧ _ ∧ _ ∧ _ ∧ _ := ⟨hT 1, hT 2, hT 6, hT 7, hT 8, hT 9, hT 18, hT 19, hT 20, hT 21, hT 22, hT 23, hT 24⟩
 simp only [Fact.G, Nat.reduceEqDiff, Nat.reduceLT, hf.size, reduceIte, s1, s2, s6, s7, s8, s9] at hKp
 clear hT hf s1 s2 s6 s7 s8 s9 b18 b19 b20 b21 b22 b23
 obtain ⟨s1, s2, s6, s7, s8, s9, s18, s19, s20, s21, s22, s23, s24⟩ := hKp
 have hf := hf1; clear hf1
 refine Fact.nx (hK7 _ _ ?_)
 try simp only [q1, q2] at s24
 refine Fact.cond_f s24 ?_
 refine wp_exit ?_
 refine Fact.then_exit ?_
 refine Fact.then_exit ?_
 refine Fact.block_exit ?_
 refine Fact.nx (hK4 _ _ ?_)
 have v0 := cell_later h3 z0; have v1 := cell_later h3 z1
 refine wp_seq_k (fun K8 hK8 => ?_)
 refine Fact.region ?_
 have b63 := hf.l 63 rfl
 have b64 := hf.l 64 rfl
 have b65 := hf.l 65 rfl
 have b66 := hf.l 66 rfl
 have b67 := hf.l 67 rfl
 have b68 := hf.l 68 rfl
 have b69 := hf.l 69 rfl
 refine Fact.p rfl fun K hK => ?_
 go_simp
 refine hK.out _ _ ?_; clear hK K
 refine Fact.p rfl fun K hK => ?_
 go_simp
 refine hK.out _ _ ?_; clear hK K
 refine Fact.p rfl fun K hK => ?_
 go_simp
 refine hK.out _ _ ?_; clear hK K
 refine Fact.op_guard (g := 2) (d := 65) (b := true) rfl rfl rfl ?_ (fun K hK => ?_)
 · (
 simp only [Fact.G, Nat.reduceEqDiff, Nat.reduceLT, reduceIte, hf.size])
 go_simp
 refine hK.out _ _ ?_; clear hK K
 refine Fact.op_guard (g := 2) (d := 65) (b := true) rfl rfl rfl ?_ (fun K hK => ?_)
 · (
 simp only [Fact.G, Nat.reduceEqDiff, Nat.reduceLT, reduceIte, hf.size])
 go_simp
 refine hK.out _ _ ?_; clear hK K
 refine Fact.op_guard (g := 2) (d := 65) (b := true) rfl rfl rfl ?_ (fun K hK => ?_)
 · (
 simp only [Fact.G, Nat.reduceEqDiff, Nat.reduceLT, reduceIte, hf.size])
 go_simp
 go_at_call 33; refine (rcan33 q k hq0 hk3 V w3).mono ?_; rintro e w8 ⟨rfl, h8⟩
 rw [← HV.out, more_eq]
 dsimp only
 refine hK.out _ _ ?_; clear hK K
 refine Fact.p rfl fun K hK => ?_
 go_simp
 refine hK.out _ _ ?_; clear hK K
 refine Fact.p rfl fun K hK => ?_
 go_simp
 refine hK.out _ _ ?_; clear hK K
 refine Fact.p rfl fun K hK => ?_
 go_simp
 refine hK.out _ _ ?_; clear hK K
 refine Fact.nil ?_
 refine Fact.q hf (by simp only [Fact.G]) rfl fun fr1 hf1 hT => ?_
 have hKp : _ ∧ _ := ⟨hT 4, hT 5⟩
 simp only [Fact.G, Nat.reduceEqDiff, Nat.reduceLT, hf.size, reduceIte] at hKp
 clear hT hf s1 s2 s6 s7 s8 s9 s18 s19 s20 s21 s22 s23 s24 b63 b64 b65 b66 b67 b68 b69
 obtain ⟨s4, s5⟩ := hKp
 have hf := hf1; clear hf1
 refine Fact.nx (hK8 _ _ ?_)
 refine wp_ret ?_
 exact Fact.ret2 rfl hf s4 s5 ⟨_, rfl, own_less (own_later (own_later hfin h3) h8) hb1.size, hb1.trans (((hbr.trans (h3.mono hbr.size)).trans (h8.mono (by have := h3.size; omega))).mono hb1.size)⟩)
 · (
 have hcase : ¬ b < 256 ∨ b < 256 := by omega
 rcases hcase with hbt | hbt
 · (
 have q1 : decide ((b : Int) < 256) = false := decide_eq_false (by omega)
 have hbe : b = 256 := by omega
 have hfin : OB wr w1.heap.size v (bytesS q k S) := by rw [← told_all hos, ← hbe]; exact ho
 have hbz : Below wr.heap.size wr wr := Below.refl _ _
 refine wp_seq_k (fun K9 hK9 => ?_)
 refine wp_seq_k (fun K10 hK10 => ?_)
 refine Fact.region ?_
 have b18 := hf.l 18 rfl
 have b19 := hf.l 19 rfl
 have b20 := hf.l 20 rfl
 have b21 := hf.l 21 rfl
 have b22 := hf.l 22 rfl
 have b23 := hf.l 23 rfl
 refine Fact.p rfl fun K hK => ?_
 go_simp
 refine hK.out _ _ ?_; clear hK K
 refine Fact.p rfl fun K hK => ?_
 go_simp
 refine hK.out _ _ ?_; clear hK K
 refine Fact.p rfl fun K hK => ?_
 go_simp
 refine hK.out _ _ ?_; clear hK K
 refine Fact.op_skip (g := 2) (d := 20) (b := true) rfl rfl rfl ?_ ?_
 · (
 simp only [Fact.G, Nat.reduceEqDiff, Nat.reduceLT, reduceIte, hf.size, Bool.not_true, Bool.not_false, q1])
 refine Fact.op_skip (g := 2) (d := 20) (b := true) rfl rfl rfl ?_ ?_
 · (
 simp only [Fact.G, Nat.reduceEqDiff, Nat.reduceLT, reduceIte, hf.size, Bool.not_true, Bool.not_false, q1])
 refine Fact.op_skip (g := 2) (d := 20) (b := true) rfl rfl rfl ?_ ?_
 · (
 simp only [Fact.G, Nat.reduceEqDiff, Nat.reduceLT, reduceIte, hf.size, Bool.not_true, Bool.not_false, q1])
 refine Fact.p rfl fun K hK => ?_
 go_simp
 refine hK.out _ _ ?_; clear hK K
 refine Fact.nil ?_
 refine Fact.q hf (by simp only [Fact.G]) rfl fun fr1 hf1 hT => ?_
 have hKp : _ ∧ _ ∧ _ ∧ _ ∧ _ ∧ _ ∧ _ ∧ _ ∧ _ ∧ _ ∧ _ ∧ _ ∧ _ := ⟨hT 1, hT 2, hT 6, hT 7, hT 8, hT 9, hT 18, hT 19, hT 20, hT 21, hT 22, hT 23, hT 24⟩
 simp only [Fact.G, Nat.reduceEqDiff, Nat.reduceLT, hf.size, reduceIte, s1, s2, s6, s7, s8, s9] at hKp
 clear hT hf s1 s2 s6 s7 s8 s9 b18 b19 b20 b21 b22 b23
 obtain ⟨s1, s2, s6, s7, s8, s9, s18, s19, s20, s21, s22, s23, s24⟩ := hKp
 have hf := hf1; clear hf1
 refine Fact.nx (hK10 _ _ ?_)
 try simp only [q1] at s24
 refine Fact.cond_f s24 ?_
 refine wp_exit ?_
 refine Fact.then_exit ?_
 refine Fact.then_exit ?_
 refine Fact.block_exit ?_
 refine Fact.nx (hK4 _ _ ?_)
 have v0 := cell_later hbz z0; have v1 := cell_later hbz z1
 refine wp_seq_k (fun K11 hK11 => ?_)
 refine Fact.region ?_
 have b63 := hf.l 63 rfl
 have b64 := hf.l 64 rfl
 have b65 := hf.l 65 rfl
 have b66 := hf.l 66 rfl
 have b67 := hf.l 67 rfl
 have b68 := hf.l 68 rfl
 have b69 := hf.l 69 rfl
 refine Fact.p rfl fun K hK => ?_
 go_simp
 refine hK.out _ _ ?_; clear hK K
 refine Fact.p rfl fun K hK => ?_
 go_simp
 refine hK.out _ _ ?_; clear hK K
 refine Fact.p rfl fun K hK => ?_
 go_simp
 refine hK.out _ _ ?_; clear hK K
 refine Fact.op_guard (g := 2) (d := 65) (b := true) rfl rfl rfl ?_ (fun K hK => ?_)
 · (
 simp only [Fact.G, Nat.reduceEqDiff, Nat.reduceLT, reduceIte, hf.size])
 go_simp
 refine hK.out _ _ ?_; clear hK K
 refine Fact.op_guard (g := 2) (d := 65) (b := true) rfl rfl rfl ?_ (fun K hK => ?_)
 · (
 simp only [Fact.G, Nat.reduceEqDiff, Nat.reduceLT, reduceIte, hf.size])
 go_simp
 refine hK.out _ _ ?_; clear hK K
 refine Fact.op_guard (g := 2) (d := 65) (b := true) rfl rfl rfl ?_ (fun K hK => ?_)
 · (
 simp only [Fact.G, Nat.reduceEqDiff, Nat.reduceLT, reduceIte, hf.size])
 go_simp
 go_at_call 33; refine (rcan33 q k hq0 hk3 V wr).mono ?_; rintro e w8 ⟨rfl, h8⟩
 rw [← HV.out, more_eq]
 dsimp only
 refine hK.out _ _ ?_; clear hK K
 refine Fact.p rfl fun K hK => ?_
 go_simp
 refine hK.out _ _ ?_; clear hK K
 refine Fact.p rfl fun K hK => ?_
 go_simp
 refine hK.out _ _ ?_; clear hK K
 refine Fact.p rfl fun K hK => ?_
 go_simp
 refine hK.out _ _ ?_; clear hK K
 refine Fact.nil ?_
 refine Fact.q hf (by simp only [Fact.G]) rfl fun fr1 hf1 hT => ?_
 have hKp : _ ∧ _ := ⟨hT 4, hT 5⟩
 simp only [Fact.G, Nat.reduceEqDiff, Nat.reduceLT, hf.size, reduceIte] at hKp
 clear hT hf s1 s2 s6 s7 s8 s9 s18 s19 s20 s21 s22 s23 s24 b63 b64 b65 b66 b67 b68 b69
 obtain ⟨s4, s5⟩ := hKp
 have hf := hf1; clear hf1
 refine Fact.nx (hK11 _ _ ?_)
 refine wp_ret ?_
 exact Fact.ret2 rfl hf s4 s5 ⟨_, rfl, own_less (own_later (own_later hfin hbz) h8) hb1.size, hb1.trans (((hbr.trans (hbz.mono hbr.size)).trans (h8.mono (by have := hbz.size; omega))).mono hb1.size)⟩)
 · (
 have q1 : decide ((b : Int) < 256) = true := decide_eq_true (by omega)
 have e8 : IntKind.u8.wrap (b : Int) = (b : Int) := Fact.wrap_u8 (by omega) (by omega)
 have hatq : ∀ (j : Nat) (h : j < q.size), q[j].toNat = at_ q j := fun j h => (at_get h).symm
 refine wp_seq_k (fun K12 hK12 => ?_)
 refine wp_seq_k (fun K13 hK13 => ?_)
 refine Fact.region ?_
 have b18 := hf.l 18 rfl
 have b19 := hf.l 19 rfl
 have b20 := hf.l 20 rfl
 have b21 := hf.l 21 rfl
 have b22 := hf.l 22 rfl
 have b23 := hf.l 23 rfl
 refine Fact.p rfl fun K hK => ?_
 go_simp
 refine hK.out _ _ ?_; clear hK K
 refine Fact.p rfl fun K hK => ?_
 go_simp
 refine hK.out _ _ ?_; clear hK K
 refine Fact.p rfl fun K hK => ?_
 go_simp
 refine hK.out _ _ ?_; clear hK K
 refine Fact.op_guard (g := 2) (d := 20) (b := true) rfl rfl rfl ?_ (fun K hK => ?_)
 · (
 simp only [Fact.G, Nat.reduceEqDiff, Nat.reduceLT, reduceIte, hf.size, q1])
 go_simp
 refine hK.out _ _ ?_; clear hK K
 refine Fact.op_guard (g := 2) (d := 20) (b := true) rfl rfl rfl ?_ (fun K hK => ?_)
 · (
 simp only [Fact.G, Nat.reduceEqDiff, Nat.reduceLT, reduceIte, hf.size, q1])
 go_simp
 refine hK.out _ _ ?_; clear hK K
 refine Fact.op_guard (g := 2) (d := 20) (b := true) rfl rfl rfl ?_ (fun K hK => ?_)
 · (
 simp only [Fact.G, Nat.reduceEqDiff, Nat.reduceLT, reduceIte, hf.size, q1])
 go_simp
 go_at_call 36; refine (ris36 q k hq0 hk3 S wr).mono ?_; rintro e w3 ⟨rfl, h3⟩
 rw [hos]
 dsimp only
 refine hK.out _ _ ?_; clear hK K
 refine Fact.p rfl fun K hK => ?_
 go_simp
 refine hK.out _ _ ?_; clear hK K
 refine Fact.nil ?_
 refine Fact.q hf (by simp only [Fact.G]) rfl fun fr1 hf1 hT => ?_
 have hKp : _ ∧ _ ∧ _ ∧ _ ∧ _ ∧ _ ∧ _ ∧ _ ∧ _ ∧ _ ∧ _ ∧ _ ∧ _ := ⟨hT 1, hT 2, hT 6, hT 7, hT 8, hT 9, hT 18, hT 19, hT 20, hT 21, hT 22, hT 23, hT 24⟩
 simp only [Fact.G, Nat.reduceEqDiff, Nat.reduceLT, hf.size, reduceIte, s1, s2, s6, s7, s8, s9] at hKp
 clear hT hf s1 s2 s6 s7 s8 s9 b18 b19 b20 b21 b22 b23
 obtain ⟨s1, s2, s6, s7, s8, s9, s18, s19, s20, s21, s22, s23, s24⟩ := hKp
 have hf := hf1; clear hf1
 refine Fact.nx (hK13 _ _ ?_)
 try simp only [q1] at s24
 refine Fact.cond_t s24 ?_
 have ho := own_later ho h3
 have hbr := hbr.trans (h3.mono hbr.size)
 have z0 := cell_later h3 z0; have z1 := cell_later h3 z1
 have hbs := hbr.size
 refine wp_skip ?_
 refine Fact.nx (hK12 _ _ ?_)
 refine wp_seq_k (fun K14 hK14 => ?_)
 refine wp_block ?_
 refine wp_seq_k (fun K15 hK15 => ?_)
 refine Fact.region ?_
 refine Fact.p rfl fun K hK => ?_
 go_simp
 refine hK.out _ _ ?_; clear hK K
 refine Fact.nil ?_
 refine Fact.q hf (by simp only [Fact.G]) rfl fun fr1 hf1 hT => ?_
 have hKp : _ ∧ _ ∧ _ ∧ _ ∧ _ ∧ _ ∧ _ ∧ _ ∧ _ ∧ _ ∧ _ ∧ _ ∧ _ ∧ _ := ⟨hT 1, hT 2, hT 6, hT 7, hT 8, hT 9, hT 10, hT 18, hT 19, hT 20, hT 21, hT 22, hT 23, hT 24⟩
 simp only [Fact.G, Nat.reduceEqDiff, Nat.reduceLT, hf.size, reduceIte, s1, s2, s6, s7, s8, s9, s18, s19, s20, s21, s22, s23, s24] at hKp
 clear hT hf s1 s2 s6 s7 s8 s9 s18 s19 s20 s21 s22 s23 s24
 obtain ⟨s1, s2, s6, s7, s8, s9, s10, s18, s19, s20, s21, s22, s23, s24⟩ := hKp
 have hf := hf1; clear hf1
 refine Fact.nx (hK15 _ _ ?_)
 refine wp_seq_k (fun K16 hK16 => ?_)
 refine wp_seq_k (fun K17 hK17 => ?_)
 refine Fact.region ?_
 refine Fact.p rfl fun K hK => ?_
 go_simp
 refine hK.out _ _ ?_; clear hK K
 refine Fact.nil ?_
 refine Fact.q hf (by simp only [Fact.G]) rfl fun fr1 hf1 hT => ?_
 have hKp : _ ∧ _ ∧ _ ∧ _ ∧ _ ∧ _ ∧ _ ∧ _ ∧ _ ∧ _ ∧ _ ∧ _ ∧ _ ∧ _ ∧ _ := ⟨hT 1, hT 2, hT 6, hT 7, hT 8, hT 9, hT 10, hT 11, hT 18, hT 19, hT 20, hT 21, hT 22, hT 23, hT 24⟩
 simp only [Fact.G, Nat.reduceEqDiff, Nat.reduceLT, hf.size, reduceIte, s1, s2, s6, s7, s8, s9, s10, s18, s19, s20, s21, s22, s23, s24] at hKp
 clear hT hf s1 s2 s6 s7 s8 s9 s10 s18 s19 s20 s21 s22 s23 s24
 obtain ⟨s1, s2, s6, s7, s8, s9, s10, s11, s18, s19, s20, s21, s22, s23, s24⟩ := hKp
 have hf := hf1; clear hf1
 refine Fact.nx (hK17 _ _ ?_)
 refine wp_block ?_
 refine wp_loop_ghost (fun g2 fr wr2 => ∃ j : Nat, g2 = q.size - j ∧ j ≤ q.size ∧ Fact.Fr 70 fr ∧ fr.tmps[1]? = some (.string S) ∧ fr.tmps[2]? = some (.pointer (some ⟨w.heap.size, 0, none⟩)) ∧ fr.tmps[6]? = some (v) ∧ fr.tmps[7]? = some (.string V) ∧ fr.tmps[8]? = some (.bool true) ∧ fr.tmps[9]? = some (.int .i64 b) ∧ fr.tmps[10]? = some (.bool (inp q b j)) ∧ fr.tmps[11]? = some (.int .i64 j) ∧ wr2 = w3) (q.size) ?_ ?_
 · (
 exact ⟨0, rfl, Nat.zero_le _, hf, s1, s2, s6, s7, s8, s9, s10, s11, rfl⟩)
 · (
 clear hf s1 s2 s6 s7 s8 s9 s10 s11 s18 s19 s20 s21 s22 s23 s24
 rintro g2 fr wr2 ⟨j, hk2, hj, hf, s1, s2, s6, s7, s8, s9, s10, s11, rfl⟩
 have HK2 := Lib.hid hk2; clear hk2
 refine wp_seq_k (fun K18 hK18 => ?_)
 refine wp_seq_k (fun K19 hK19 => ?_)
 refine Fact.region ?_
 have b27 := hf.l 27 rfl
 have b28 := hf.l 28 rfl
 have b29 := hf.l 29 rfl
 have b30 := hf.l 30 rfl
 refine Fact.p rfl fun K hK => ?_
 go_simp
 refine hK.out _ _ ?_; clear hK K
 refine Fact.p rfl fun K hK => ?_
 go_simp
 refine hK.out _ _ ?_; clear hK K
 refine Fact.p rfl fun K hK => ?_
 go_simp
 refine hK.out _ _ ?_; clear hK K
 refine Fact.p rfl fun K hK => ?_
 go_simp
 refine hK.out _ _ ?_; clear hK K
 refine Fact.p rfl fun K hK => ?_
 go_simp
 refine hK.out _ _ ?_; clear hK K
 refine Fact.nil ?_
 refine Fact.q hf (by simp only [Fact.G]) rfl fun fr1 hf1 hT => ?_
 have hKp : _ ∧ _ ∧ _ ∧ _ ∧ _ ∧ _ ∧ _ ∧ _ ∧ _ ∧ _ ∧ _ ∧ _ ∧ _ := ⟨hT 1, hT 2, hT 6, hT 7, hT 8, hT 9, hT 10, hT 11, hT 27, hT 28, hT 29, hT 30, hT 31⟩
 simp only [Fact.G, Nat.reduceEqDiff, Nat.reduceLT, hf.size, reduceIte, s1, s2, s6, s7, s8, s9, s10, s11] at hKp
 clear hT hf s1 s2 s6 s7 s8 s9 s10 s11 b27 b28 b29 b30
 obtain ⟨s1, s2, s6, s7, s8, s9, s10, s11, s27, s28, s29, s30, s31⟩ := hKp
 have hf := hf1; clear hf1
 refine Fact.nx (hK19 _ _ ?_)
 refine Fact.cond_s s31 (fun hq2 => ?_) (fun hq2 => ?_)
 · (
 have hjt : j < q.size := by have h9 := of_decide_eq_true hq2; omega
 rcases hin : inp q b j with _ | _
 · (
 rw [hin] at s10
 refine wp_skip ?_
 refine Fact.nx (hK18 _ _ ?_)
 refine wp_seq_k (fun K20 hK20 => ?_)
 refine wp_block ?_
 refine Fact.region ?_
 have b34 := hf.l 34 rfl
 have b35 := hf.l 35 rfl
 have b36 := hf.l 36 rfl
 have b37 := hf.l 37 rfl
 have b38 := hf.l 38 rfl
 have b39 := hf.l 39 rfl
 have b40 := hf.l 40 rfl
 have b41 := hf.l 41 rfl
 have b42 := hf.l 42 rfl
 have b43 := hf.l 43 rfl
 refine Fact.p rfl fun K hK => ?_
 go_simp
 refine hK.out _ _ ?_; clear hK K
 refine Fact.p rfl fun K hK => ?_
 go_simp
 refine hK.out _ _ ?_; clear hK K
 refine Fact.op_guard (g := 1) (d := 35) (b := false) rfl rfl rfl ?_ (fun K hK => ?_)
 · (
 simp only [Fact.G, Nat.reduceEqDiff, Nat.reduceLT, reduceIte, hf.size])
 go_simp
 refine hK.out _ _ ?_; clear hK K
 refine Fact.op_guard (g := 1) (d := 35) (b := false) rfl rfl rfl ?_ (fun K hK => ?_)
 · (
 simp only [Fact.G, Nat.reduceEqDiff, Nat.reduceLT, reduceIte, hf.size])
 go_simp
 refine hK.out _ _ ?_; clear hK K
 refine Fact.op_guard (g := 1) (d := 35) (b := false) rfl rfl rfl ?_ (fun K hK => ?_)
 · (
 simp only [Fact.G, Nat.reduceEqDiff, Nat.reduceLT, reduceIte, hf.size])
 go_simp
 refine hK.out _ _ ?_; clear hK K
 refine Fact.op_guard (g := 1) (d := 35) (b := false) rfl rfl rfl ?_ (fun K hK => ?_)
 · (
 simp only [Fact.G, Nat.reduceEqDiff, Nat.reduceLT, reduceIte, hf.size])
 go_simp
 try rw [if_pos (by omega)]
 refine hK.out _ _ ?_; clear hK K
 refine Fact.op_guard (g := 1) (d := 35) (b := false) rfl rfl rfl ?_ (fun K hK => ?_)
 · (
 simp only [Fact.G, Nat.reduceEqDiff, Nat.reduceLT, reduceIte, hf.size])
 go_simp
 refine hK.out _ _ ?_; clear hK K
 refine Fact.op_guard (g := 1) (d := 35) (b := false) rfl rfl rfl ?_ (fun K hK => ?_)
 · (
 simp only [Fact.G, Nat.reduceEqDiff, Nat.reduceLT, reduceIte, hf.size])
 go_simp
 refine hK.out _ _ ?_; clear hK K
 refine Fact.op_guard (g := 1) (d := 35) (b := false) rfl rfl rfl ?_ (fun K hK => ?_)
 · (
 simp only [Fact.G, Nat.reduceEqDiff, Nat.reduceLT, reduceIte, hf.size])
 go_simp
 refine hK.out _ _ ?_; clear hK K
 refine Fact.p rfl fun K hK => ?_
 go_simp
 refine hK.out _ _ ?_; clear hK K
 refine Fact.p rfl fun K hK => ?_
 go_simp
 refine hK.out _ _ ?_; clear hK K
 refine Fact.nil ?_
 refine Fact.q hf (by simp only [Fact.G]) rfl fun fr1 hf1 hT => ?_
 have hKp : _ ∧ _ ∧ _ ∧ _ ∧ _ ∧ _ ∧ _ ∧ _ ∧ _ ∧ _ ∧ _ ∧ _ ∧ _ ∧ _ ∧ _ ∧ _ ∧ _ ∧ _ ∧ _ ∧ _ ∧ _ ∧ _ ∧ _ := ⟨hT 1, hT 2, hT 6, hT 7, hT 8, hT 9, hT 10, hT 11, hT 27, hT 28, hT 29, hT 30, hT 31, hT 34, hT 35, hT 36, hT 37, hT 38, hT 39, hT 40, hT 41, hT 42, hT 43⟩
 simp only [Fact.G, Nat.reduceEqDiff, Nat.reduceLT, hf.size, reduceIte, s1, s2, s6, s7, s8, s9, s11, s27, s28, s29, s30, s31] at hKp
 clear hT hf s1 s2 s6 s7 s8 s9 s10 s11 s27 s28 s29 s30 s31 b34 b35 b36 b37 b38 b39 b40 b41 b42 b43
 obtain ⟨s1, s2, s6, s7, s8, s9, s10, s11, s27, s28, s29, s30, s31, s34, s35, s36, s37, s38, s39, s40, s41, s42, s43⟩ := hKp
 have hf := hf1; clear hf1
 refine Fact.block_normal ?_
 refine Fact.nx (hK20 _ _ ?_)
 refine Fact.region ?_
 have b32 := hf.l 32 rfl
 have b33 := hf.l 33 rfl
 refine Fact.p rfl fun K hK => ?_
 go_simp
 refine hK.out _ _ ?_; clear hK K
 refine Fact.p rfl fun K hK => ?_
 go_simp
 try simp (disch := omega) only [Fact.wrap_i64, Fact.wrap_u8, Fact.wrap_u32, Fact.wrap_u64]
 refine hK.out _ _ ?_; clear hK K
 refine Fact.p rfl fun K hK => ?_
 go_simp
 refine hK.out _ _ ?_; clear hK K
 refine Fact.nil ?_
 refine Fact.q hf (by simp only [Fact.G]) rfl fun fr1 hf1 hT => ?_
 have hKp : _ ∧ _ ∧ _ ∧ _ ∧ _ ∧ _ ∧ _ ∧ _ ∧ _ ∧ _ ∧ _ ∧ _ ∧ _ ∧ _ ∧ _ ∧ _ ∧ _ ∧ _ ∧ _ ∧ _ ∧ _ ∧ _ ∧ _ ∧ _ ∧ _ := ⟨hT 1, hT 2, hT 6, hT 7, hT 8, hT 9, hT 10, hT 11, hT 27, hT 28, hT 29, hT 30, hT 31, hT 32, hT 33, hT 34, hT 35, hT 36, hT 37, hT 38, hT 39, hT 40, hT 41, hT 42, hT 43⟩
 simp only [Fact.G, Nat.reduceEqDiff, Nat.reduceLT, hf.size, reduceIte, s1, s2, s6, s7, s8, s9, s10, s27, s28, s29, s30, s31, s34, s35, s36, s37, s38, s39, s40, s41, s42, s43] at hKp
 clear hT hf s1 s2 s6 s7 s8 s9 s10 s11 s27 s28 s29 s30 s31 s34 s35 s36 s37 s38 s39 s40 s41 s42 s43 b32 b33
 obtain ⟨s1, s2, s6, s7, s8, s9, s10, s11, s27, s28, s29, s30, s31, s32, s33, s34, s35, s36, s37, s38, s39, s40, s41, s42, s43⟩ := hKp
 have hf := hf1; clear hf1
 refine Fact.then_normal ?_
 exact ⟨_, by have := HK2.out; omega, j + 1, rfl, by omega, hf, s1, s2, s6, s7, s8, s9, by rw [inp, hin, ← cast_beq]; simpa using s10, by rw [s11]; rfl, rfl⟩)
 · (
 rw [hin] at s10
 refine wp_skip ?_
 refine Fact.nx (hK18 _ _ ?_)
 refine wp_seq_k (fun K21 hK21 => ?_)
 refine wp_block ?_
 refine Fact.region ?_
 have b34 := hf.l 34 rfl
 have b35 := hf.l 35 rfl
 have b36 := hf.l 36 rfl
 have b37 := hf.l 37 rfl
 have b38 := hf.l 38 rfl
 have b39 := hf.l 39 rfl
 have b40 := hf.l 40 rfl
 have b41 := hf.l 41 rfl
 have b42 := hf.l 42 rfl
 have b43 := hf.l 43 rfl
 refine Fact.p rfl fun K hK => ?_
 go_simp
 refine hK.out _ _ ?_; clear hK K
 refine Fact.p rfl fun K hK => ?_
 go_simp
 refine hK.out _ _ ?_; clear hK K
 refine Fact.op_skip (g := 1) (d := 35) (b := false) rfl rfl rfl ?_ ?_
 · (
 simp only [Fact.G, Nat.reduceEqDiff, Nat.reduceLT, reduceIte, hf.size, Bool.not_true, Bool.not_false])
 refine Fact.op_skip (g := 1) (d := 35) (b := false) rfl rfl rfl ?_ ?_
 · (
 simp only [Fact.G, Nat.reduceEqDiff, Nat.reduceLT, reduceIte, hf.size, Bool.not_true, Bool.not_false])
 refine Fact.op_skip (g := 1) (d := 35) (b := false) rfl rfl rfl ?_ ?_
 · (
 simp only [Fact.G, Nat.reduceEqDiff, Nat.reduceLT, reduceIte, hf.size, Bool.not_true, Bool.not_false])
 refine Fact.op_skip (g := 1) (d := 35) (b := false) rfl rfl rfl ?_ ?_
 · (
 simp only [Fact.G, Nat.reduceEqDiff, Nat.reduceLT, reduceIte, hf.size, Bool.not_true, Bool.not_false])
 refine Fact.op_skip (g := 1) (d := 35) (b := false) rfl rfl rfl ?_ ?_
 · (
 simp only [Fact.G, Nat.reduceEqDiff, Nat.reduceLT, reduceIte, hf.size, Bool.not_true, Bool.not_false])
 refine Fact.op_skip (g := 1) (d := 35) (b := false) rfl rfl rfl ?_ ?_
 · (
 simp only [Fact.G, Nat.reduceEqDiff, Nat.reduceLT, reduceIte, hf.size, Bool.not_true, Bool.not_false])
 refine Fact.op_skip (g := 1) (d := 35) (b := false) rfl rfl rfl ?_ ?_
 · (
 simp only [Fact.G, Nat.reduceEqDiff, Nat.reduceLT, reduceIte, hf.size, Bool.not_true, Bool.not_false])
 refine Fact.p rfl fun K hK => ?_
 go_simp
 refine hK.out _ _ ?_; clear hK K
 refine Fact.p rfl fun K hK => ?_
 go_simp
 refine hK.out _ _ ?_; clear hK K
 refine Fact.nil ?_
 refine Fact.q hf (by simp only [Fact.G]) rfl fun fr1 hf1 hT => ?_
 have hKp : _ ∧ _ ∧ _ ∧ _ ∧ _ ∧ _ ∧ _ ∧ _ ∧ _ ∧ _ ∧ _ ∧ _ ∧ _ ∧ _ ∧ _ ∧ _ ∧ _ ∧ _ ∧ _ ∧ _ ∧ _ ∧ _ ∧ _ := ⟨hT 1, hT 2, hT 6, hT 7, hT 8, hT 9, hT 10, hT 11, hT 27, hT 28, hT 29, hT 30, hT 31, hT 34, hT 35, hT 36, hT 37, hT 38, hT 39, hT 40, hT 41, hT 42, hT 43⟩
 simp only [Fact.G, Nat.reduceEqDiff, Nat.reduceLT, hf.size, reduceIte, s1, s2, s6, s7, s8, s9, s11, s27, s28, s29, s30, s31] at hKp
 clear hT hf s1 s2 s6 s7 s8 s9 s10 s11 s27 s28 s29 s30 s31 b34 b35 b36 b37 b38 b39 b40 b41 b42 b43
 obtain ⟨s1, s2, s6, s7, s8, s9, s10, s11, s27, s28, s29, s30, s31, s34, s35, s36, s37, s38, s39, s40, s41, s42, s43⟩ := hKp
 have hf := hf1; clear hf1
 refine Fact.block_normal ?_
 refine Fact.nx (hK21 _ _ ?_)
 refine Fact.region ?_
 have b32 := hf.l 32 rfl
 have b33 := hf.l 33 rfl
 refine Fact.p rfl fun K hK => ?_
 go_simp
 refine hK.out _ _ ?_; clear hK K
 refine Fact.p rfl fun K hK => ?_
 go_simp
 try simp (disch := omega) only [Fact.wrap_i64, Fact.wrap_u8, Fact.wrap_u32, Fact.wrap_u64]
 refine hK.out _ _ ?_; clear hK K
 refine Fact.p rfl fun K hK => ?_
 go_simp
 refine hK.out _ _ ?_; clear hK K
 refine Fact.nil ?_
 refine Fact.q hf (by simp only [Fact.G]) rfl fun fr1 hf1 hT => ?_
 have hKp : _ ∧ _ ∧ _ ∧ _ ∧ _ ∧ _ ∧ _ ∧ _ ∧ _ ∧ _ ∧ _ ∧ _ ∧ _ ∧ _ ∧ _ ∧ _ ∧ _ ∧ _ ∧ _ ∧ _ ∧ _ ∧ _ ∧ _ ∧ _ ∧ _ := ⟨hT 1, hT 2, hT 6, hT 7, hT 8, hT 9, hT 10, hT 11, hT 27, hT 28, hT 29, hT 30, hT 31, hT 32, hT 33, hT 34, hT 35, hT 36, hT 37, hT 38, hT 39, hT 40, hT 41, hT 42, hT 43⟩
 simp only [Fact.G, Nat.reduceEqDiff, Nat.reduceLT, hf.size, reduceIte, s1, s2, s6, s7, s8, s9, s10, s27, s28, s29, s30, s31, s34, s35, s36, s37, s38, s39, s40, s41, s42, s43] at hKp
 clear hT hf s1 s2 s6 s7 s8 s9 s10 s11 s27 s28 s29 s30 s31 s34 s35 s36 s37 s38 s39 s40 s41 s42 s43 b32 b33
 obtain ⟨s1, s2, s6, s7, s8, s9, s10, s11, s27, s28, s29, s30, s31, s32, s33, s34, s35, s36, s37, s38, s39, s40, s41, s42, s43⟩ := hKp
 have hf := hf1; clear hf1
 refine Fact.then_normal ?_
 exact ⟨_, by have := HK2.out; omega, j + 1, rfl, by omega, hf, s1, s2, s6, s7, s8, s9, by rw [inp, hin, ← cast_beq]; simpa using s10, by rw [s11]; rfl, rfl⟩))
 · (
 have hje : j = q.size := by have h9 := of_decide_eq_false hq2; omega
 subst hje
 rw [inp_all] at s10
 rcases hin : inQ q b with _ | _
 · (
 rw [hin] at s10
 refine wp_exit ?_
 refine Fact.then_exit ?_
 refine Fact.then_exit ?_
 refine Fact.block_exit ?_
 refine Fact.nx (hK16 _ _ ?_)
 refine wp_seq_k (fun K22 hK22 => ?_)
 refine Fact.region ?_
 have b44 := hf.l 44 rfl
 have b45 := hf.l 45 rfl
 have b46 := hf.l 46 rfl
 have b47 := hf.l 47 rfl
 have b48 := hf.l 48 rfl
 have b49 := hf.l 49 rfl
 have b50 := hf.l 50 rfl
 have b51 := hf.l 51 rfl
 have b52 := hf.l 52 rfl
 have b53 := hf.l 53 rfl
 have b54 := hf.l 54 rfl
 have b55 := hf.l 55 rfl
 have b56 := hf.l 56 rfl
 refine Fact.p rfl fun K hK => ?_
 go_simp
 refine hK.out _ _ ?_; clear hK K
 refine Fact.p rfl fun K hK => ?_
 go_simp
 refine hK.out _ _ ?_; clear hK K
 refine Fact.op_skip (g := 1) (d := 45) (b := true) rfl rfl rfl ?_ ?_
 · (
 simp only [Fact.G, Nat.reduceEqDiff, Nat.reduceLT, reduceIte, hf.size, Bool.not_true, Bool.not_false])
 refine Fact.op_skip (g := 1) (d := 45) (b := true) rfl rfl rfl ?_ ?_
 · (
 simp only [Fact.G, Nat.reduceEqDiff, Nat.reduceLT, reduceIte, hf.size, Bool.not_true, Bool.not_false])
 refine Fact.op_skip (g := 1) (d := 45) (b := true) rfl rfl rfl ?_ ?_
 · (
 simp only [Fact.G, Nat.reduceEqDiff, Nat.reduceLT, reduceIte, hf.size, Bool.not_true, Bool.not_false])
 refine Fact.op_skip' (g := 4) (d := 48) (b := false) rfl rfl rfl ?_ ?_
 · (
 simp only [Fact.G, Nat.reduceEqDiff, Nat.reduceLT, reduceIte, hf.size, Bool.not_true, Bool.not_false])
 refine Fact.op_skip' (g := 4) (d := 48) (b := false) rfl rfl rfl ?_ ?_
 · (
 simp only [Fact.G, Nat.reduceEqDiff, Nat.reduceLT, reduceIte, hf.size, Bool.not_true, Bool.not_false])
 refine Fact.op_skip' (g := 4) (d := 48) (b := false) rfl rfl rfl ?_ ?_
 · (
 simp only [Fact.G, Nat.reduceEqDiff, Nat.reduceLT, reduceIte, hf.size, Bool.not_true, Bool.not_false])
 refine Fact.op_skip' (g := 4) (d := 48) (b := false) rfl rfl rfl ?_ ?_
 · (
 simp only [Fact.G, Nat.reduceEqDiff, Nat.reduceLT, reduceIte, hf.size, Bool.not_true, Bool.not_false])
 refine Fact.op_skip' (g := 4) (d := 48) (b := false) rfl rfl rfl ?_ ?_
 · (
 simp only [Fact.G, Nat.reduceEqDiff, Nat.reduceLT, reduceIte, hf.size, Bool.not_true, Bool.not_false])
 refine Fact.op_skip' (g := 4) (d := 48) (b := false) rfl rfl rfl ?_ ?_
 · (
 simp only [Fact.G, Nat.reduceEqDiff, Nat.reduceLT, reduceIte, hf.size, Bool.not_true, Bool.not_false])
 refine Fact.op_skip' (g := 4) (d := 48) (b := false) rfl rfl rfl ?_ ?_
 · (
 simp only [Fact.G, Nat.reduceEqDiff, Nat.reduceLT, reduceIte, hf.size, Bool.not_true, Bool.not_false])
 refine Fact.op_skip (g := 1) (d := 45) (b := true) rfl rfl rfl ?_ ?_
 · (
 simp only [Fact.G, Nat.reduceEqDiff, Nat.reduceLT, reduceIte, hf.size, Bool.not_true, Bool.not_false])
 refine Fact.p rfl fun K hK => ?_
 go_simp
 refine hK.out _ _ ?_; clear hK K
 refine Fact.nil ?_
 refine Fact.q hf (by simp only [Fact.G]) rfl fun fr1 hf1 hT => ?_
 have hKp : _ ∧ _ ∧ _ ∧ _ ∧ _ ∧ _ ∧ _ ∧ _ ∧ _ ∧ _ ∧ _ ∧ _ ∧ _ ∧ _ ∧ _ ∧ _ ∧ _ ∧ _ ∧ _ ∧ _ ∧ _ ∧ _ ∧ _ ∧ _ ∧ _ ∧ _ ∧ _ := ⟨hT 1, hT 2, hT 6, hT 7, hT 8, hT 9, hT 10, hT 11, hT 27, hT 28, hT 29, hT 30, hT 31, hT 44, hT 45, hT 46, hT 47, hT 48, hT 49, hT 50, hT 51, hT 52, hT 53, hT 54, hT 55, hT 56, hT 57⟩
 simp only [Fact.G, Nat.reduceEqDiff, Nat.reduceLT, hf.size, reduceIte, s1, s2, s6, s7, s8, s9, s10, s11, s27, s28, s29, s30, s31] at hKp
 clear hT hf s1 s2 s6 s7 s8 s9 s10 s11 s27 s28 s29 s30 s31 b44 b45 b46 b47 b48 b49 b50 b51 b52 b53 b54 b55 b56
 obtain ⟨s1, s2, s6, s7, s8, s9, s10, s11, s27, s28, s29, s30, s31, s44, s45, s46, s47, s48, s49, s50, s51, s52, s53, s54, s55, s56, s57⟩ := hKp
 have hf := hf1; clear hf1
 refine Fact.nx (hK22 _ _ ?_)
 try simp only [Bool.false_eq_true] at s57
 refine Fact.cond_f s57 ?_
 refine wp_skip ?_
 refine Fact.block_normal ?_
 refine Fact.nx (hK14 _ _ ?_)
 refine Fact.region ?_
 have b25 := hf.l 25 rfl
 have b26 := hf.l 26 rfl
 refine Fact.p rfl fun K hK => ?_
 go_simp
 refine hK.out _ _ ?_; clear hK K
 refine Fact.p rfl fun K hK => ?_
 go_simp
 try simp (disch := omega) only [Fact.wrap_i64, Fact.wrap_u8, Fact.wrap_u32, Fact.wrap_u64]
 refine hK.out _ _ ?_; clear hK K
 refine Fact.p rfl fun K hK => ?_
 go_simp
 refine hK.out _ _ ?_; clear hK K
 refine Fact.nil ?_
 refine Fact.q hf (by simp only [Fact.G]) rfl fun fr1 hf1 hT => ?_
 have hKp : _ ∧ _ ∧ _ ∧ _ ∧ _ ∧ _ ∧ _ ∧ _ ∧ _ ∧ _ ∧ _ ∧ _ ∧ _ ∧ _ ∧ _ ∧ _ ∧ _ ∧ _ ∧ _ ∧ _ ∧ _ ∧ _ ∧ _ ∧ _ ∧ _ ∧ _ ∧ _ ∧ _ ∧ _ := ⟨hT 1, hT 2, hT 6, hT 7, hT 8, hT 9, hT 10, hT 11, hT 25, hT 26, hT 27, hT 28, hT 29, hT 30, hT 31, hT 44, hT 45, hT 46, hT 47, hT 48, hT 49, hT 50, hT 51, hT 52, hT 53, hT 54, hT 55, hT 56, hT 57⟩
 simp only [Fact.G, Nat.reduceEqDiff, Nat.reduceLT, hf.size, reduceIte, s1, s2, s6, s7, s8, s10, s11, s27, s28, s29, s30, s31, s44, s45, s46, s47, s48, s49, s50, s51, s52, s53, s54, s55, s56, s57] at hKp
 clear hT hf s1 s2 s6 s7 s8 s9 s10 s11 s27 s28 s29 s30 s31 s44 s45 s46 s47 s48 s49 s50 s51 s52 s53 s54 s55 s56 s57 b25 b26
 obtain ⟨s1, s2, s6, s7, s8, s9, s10, s11, s25, s26, s27, s28, s29, s30, s31, s44, s45, s46, s47, s48, s49, s50, s51, s52, s53, s54, s55, s56, s57⟩ := hKp
 have hf := hf1; clear hf1
 refine Fact.then_normal ?_
 exact ⟨_, by have := HK.out; omega, b + 1, v, rfl, by omega, (fun h => by cases h), hf, s1, s2, s6, s7, s8, by rw [s9]; rfl, by rw [told_not hin]; exact ho, hbr⟩)
 · (
 rw [hin] at s10
 by_cases hst : stepS q k S b = V
 · (
 refine wp_exit ?_
 refine Fact.then_exit ?_
 refine Fact.then_exit ?_
 refine Fact.block_exit ?_
 refine Fact.nx (hK16 _ _ ?_)
 refine wp_seq_k (fun K23 hK23 => ?_)
 refine Fact.region ?_
 have b44 := hf.l 44 rfl
 have b45 := hf.l 45 rfl
 have b46 := hf.l 46 rfl
 have b47 := hf.l 47 rfl
 have b48 := hf.l 48 rfl
 have b49 := hf.l 49 rfl
 have b50 := hf.l 50 rfl
 have b51 := hf.l 51 rfl
 have b52 := hf.l 52 rfl
 have b53 := hf.l 53 rfl
 have b54 := hf.l 54 rfl
 have b55 := hf.l 55 rfl
 have b56 := hf.l 56 rfl
 refine Fact.p rfl fun K hK => ?_
 go_simp
 refine hK.out _ _ ?_; clear hK K
 refine Fact.p rfl fun K hK => ?_
 go_simp
 refine hK.out _ _ ?_; clear hK K
 refine Fact.op_guard (g := 1) (d := 45) (b := true) rfl rfl rfl ?_ (fun K hK => ?_)
 · (
 simp only [Fact.G, Nat.reduceEqDiff, Nat.reduceLT, reduceIte, hf.size, Bool.not_true, Bool.not_false])
 go_simp
 refine hK.out _ _ ?_; clear hK K
 refine Fact.op_guard (g := 1) (d := 45) (b := true) rfl rfl rfl ?_ (fun K hK => ?_)
 · (
 simp only [Fact.G, Nat.reduceEqDiff, Nat.reduceLT, reduceIte, hf.size, Bool.not_true, Bool.not_false])
 go_simp
 refine hK.out _ _ ?_; clear hK K
 refine Fact.op_guard (g := 1) (d := 45) (b := true) rfl rfl rfl ?_ (fun K hK => ?_)
 · (
 simp only [Fact.G, Nat.reduceEqDiff, Nat.reduceLT, reduceIte, hf.size, Bool.not_true, Bool.not_false])
 go_simp
 refine hK.out _ _ ?_; clear hK K
 refine Fact.op_guard (g := 4) (d := 48) (b := false) rfl rfl rfl ?_ (fun K hK => ?_)
 · (
 simp only [Fact.G, Nat.reduceEqDiff, Nat.reduceLT, reduceIte, hf.size, Bool.not_true, Bool.not_false])
 go_simp
 refine hK.out _ _ ?_; clear hK K
 refine Fact.op_guard (g := 4) (d := 48) (b := false) rfl rfl rfl ?_ (fun K hK => ?_)
 · (
 simp only [Fact.G, Nat.reduceEqDiff, Nat.reduceLT, reduceIte, hf.size, Bool.not_true, Bool.not_false])
 go_simp
 refine hK.out _ _ ?_; clear hK K
 refine Fact.op_guard (g := 4) (d := 48) (b := false) rfl rfl rfl ?_ (fun K hK => ?_)
 · (
 simp only [Fact.G, Nat.reduceEqDiff, Nat.reduceLT, reduceIte, hf.size, Bool.not_true, Bool.not_false])
 go_simp
 refine hK.out _ _ ?_; clear hK K
 refine Fact.op_guard (g := 4) (d := 48) (b := false) rfl rfl rfl ?_ (fun K hK => ?_)
 · (
 simp only [Fact.G, Nat.reduceEqDiff, Nat.reduceLT, reduceIte, hf.size, Bool.not_true, Bool.not_false])
 go_simp
 refine hK.out _ _ ?_; clear hK K
 refine Fact.op_guard (g := 4) (d := 48) (b := false) rfl rfl rfl ?_ (fun K hK => ?_)
 · (
 simp only [Fact.G, Nat.reduceEqDiff, Nat.reduceLT, reduceIte, hf.size, Bool.not_true, Bool.not_false])
 go_simp
 go_at_call 17; refine (rstep17 q k hq0 hk3 S b wr2).mono ?_; rintro e w5 ⟨rfl, h5⟩
 rw [hst]
 dsimp only
 refine hK.out _ _ ?_; clear hK K
 refine Fact.op_guard (g := 4) (d := 48) (b := false) rfl rfl rfl ?_ (fun K hK => ?_)
 · (
 simp only [Fact.G, Nat.reduceEqDiff, Nat.reduceLT, reduceIte, hf.size, Bool.not_true, Bool.not_false])
 go_simp
 refine hK.out _ _ ?_; clear hK K
 refine Fact.op_guard (g := 4) (d := 48) (b := false) rfl rfl rfl ?_ (fun K hK => ?_)
 · (
 simp only [Fact.G, Nat.reduceEqDiff, Nat.reduceLT, reduceIte, hf.size, Bool.not_true, Bool.not_false])
 go_simp
 refine hK.out _ _ ?_; clear hK K
 refine Fact.op_guard (g := 1) (d := 45) (b := true) rfl rfl rfl ?_ (fun K hK => ?_)
 · (
 simp only [Fact.G, Nat.reduceEqDiff, Nat.reduceLT, reduceIte, hf.size, Bool.not_true, Bool.not_false])
 go_simp
 refine hK.out _ _ ?_; clear hK K
 refine Fact.p rfl fun K hK => ?_
 go_simp
 refine hK.out _ _ ?_; clear hK K
 refine Fact.nil ?_
 refine Fact.q hf (by simp only [Fact.G]) rfl fun fr1 hf1 hT => ?_
 have hKp : _ ∧ _ ∧ _ ∧ _ ∧ _ ∧ _ ∧ _ ∧ _ ∧ _ ∧ _ ∧ _ ∧ _ ∧ _ ∧ _ ∧ _ ∧ _ ∧ _ ∧ _ ∧ _ ∧ _ ∧ _ ∧ _ ∧ _ ∧ _ ∧ _ ∧ _ ∧ _ := ⟨hT 1, hT 2, hT 6, hT 7, hT 8, hT 9, hT 10, hT 11, hT 27, hT 28, hT 29, hT 30, hT 31, hT 44, hT 45, hT 46, hT 47, hT 48, hT 49, hT 50, hT 51, hT 52, hT 53, hT 54, hT 55, hT 56, hT 57⟩
 simp only [Fact.G, Nat.reduceEqDiff, Nat.reduceLT, hf.size, reduceIte, s1, s2, s6, s7, s8, s9, s10, s11, s27, s28, s29, s30, s31] at hKp
 clear hT hf s1 s2 s6 s7 s8 s9 s10 s11 s27 s28 s29 s30 s31 b44 b45 b46 b47 b48 b49 b50 b51 b52 b53 b54 b55 b56
 obtain ⟨s1, s2, s6, s7, s8, s9, s10, s11, s27, s28, s29, s30, s31, s44, s45, s46, s47, s48, s49, s50, s51, s52, s53, s54, s55, s56, s57⟩ := hKp
 have hf := hf1; clear hf1
 refine Fact.nx (hK23 _ _ ?_)
 try simp at s57
 refine Fact.cond_f s57 ?_
 refine wp_skip ?_
 refine Fact.block_normal ?_
 refine Fact.nx (hK14 _ _ ?_)
 refine Fact.region ?_
 have b25 := hf.l 25 rfl
 have b26 := hf.l 26 rfl
 refine Fact.p rfl fun K hK => ?_
 go_simp
 refine hK.out _ _ ?_; clear hK K
 refine Fact.p rfl fun K hK => ?_
 go_simp
 try simp (disch := omega) only [Fact.wrap_i64, Fact.wrap_u8, Fact.wrap_u32, Fact.wrap_u64]
 refine hK.out _ _ ?_; clear hK K
 refine Fact.p rfl fun K hK => ?_
 go_simp
 refine hK.out _ _ ?_; clear hK K
 refine Fact.nil ?_
 refine Fact.q hf (by simp only [Fact.G]) rfl fun fr1 hf1 hT => ?_
 have hKp : _ ∧ _ ∧ _ ∧ _ ∧ _ ∧ _ ∧ _ ∧ _ ∧ _ ∧ _ ∧ _ ∧ _ ∧ _ ∧ _ ∧ _ ∧ _ ∧ _ ∧ _ ∧ _ ∧ _ ∧ _ ∧ _ ∧ _ ∧ _ ∧ _ ∧ _ ∧ _ ∧ _ ∧ _ := ⟨hT 1, hT 2, hT 6, hT 7, hT 8, hT 9, hT 10, hT 11, hT 25, hT 26, hT 27, hT 28, hT 29, hT 30, hT 31, hT 44, hT 45, hT 46, hT 47, hT 48, hT 49, hT 50, hT 51, hT 52, hT 53, hT 54, hT 55, hT 56, hT 57⟩
 simp only [Fact.G, Nat.reduceEqDiff, Nat.reduceLT, hf.size, reduceIte, s1, s2, s6, s7, s8, s10, s11, s27, s28, s29, s30, s31, s44, s45, s46, s47, s48, s49, s50, s51, s52, s53, s54, s55, s56, s57] at hKp
 clear hT hf s1 s2 s6 s7 s8 s9 s10 s11 s27 s28 s29 s30 s31 s44 s45 s46 s47 s48 s49 s50 s51 s52 s53 s54 s55 s56 s57 b25 b26
 obtain ⟨s1, s2, s6, s7, s8, s9, s10, s11, s25, s26, s27, s28, s29, s30, s31, s44, s45, s46, s47, s48, s49, s50, s51, s52, s53, s54, s55, s56, s57⟩ := hKp
 have hf := hf1; clear hf1
 refine Fact.then_normal ?_
 exact ⟨_, by have := HK.out; omega, b + 1, v, rfl, by omega, (fun h => by cases h), hf, s1, s2, s6, s7, s8, by rw [s9]; rfl, by rw [told_same (by rw [HV.out]; exact hst)]; exact own_later ho h5, hbr.trans (h5.mono hbr.size)⟩)
 · (
 have e57 : ((stepS q k S b).toList == V.toList) = false := by rw [bytes_beq]; exact decide_eq_false hst
 refine wp_exit ?_
 refine Fact.then_exit ?_
 refine Fact.then_exit ?_
 refine Fact.block_exit ?_
 refine Fact.nx (hK16 _ _ ?_)
 refine wp_seq_k (fun K24 hK24 => ?_)
 refine Fact.region ?_
 have b44 := hf.l 44 rfl
 have b45 := hf.l 45 rfl
 have b46 := hf.l 46 rfl
 have b47 := hf.l 47 rfl
 have b48 := hf.l 48 rfl
 have b49 := hf.l 49 rfl
 have b50 := hf.l 50 rfl
 have b51 := hf.l 51 rfl
 have b52 := hf.l 52 rfl
 have b53 := hf.l 53 rfl
 have b54 := hf.l 54 rfl
 have b55 := hf.l 55 rfl
 have b56 := hf.l 56 rfl
 refine Fact.p rfl fun K hK => ?_
 go_simp
 refine hK.out _ _ ?_; clear hK K
 refine Fact.p rfl fun K hK => ?_
 go_simp
 refine hK.out _ _ ?_; clear hK K
 refine Fact.op_guard (g := 1) (d := 45) (b := true) rfl rfl rfl ?_ (fun K hK => ?_)
 · (
 simp only [Fact.G, Nat.reduceEqDiff, Nat.reduceLT, reduceIte, hf.size, Bool.not_true, Bool.not_false])
 go_simp
 refine hK.out _ _ ?_; clear hK K
 refine Fact.op_guard (g := 1) (d := 45) (b := true) rfl rfl rfl ?_ (fun K hK => ?_)
 · (
 simp only [Fact.G, Nat.reduceEqDiff, Nat.reduceLT, reduceIte, hf.size, Bool.not_true, Bool.not_false])
 go_simp
 refine hK.out _ _ ?_; clear hK K
 refine Fact.op_guard (g := 1) (d := 45) (b := true) rfl rfl rfl ?_ (fun K hK => ?_)
 · (
 simp only [Fact.G, Nat.reduceEqDiff, Nat.reduceLT, reduceIte, hf.size, Bool.not_true, Bool.not_false])
 go_simp
 refine hK.out _ _ ?_; clear hK K
 refine Fact.op_guard (g := 4) (d := 48) (b := false) rfl rfl rfl ?_ (fun K hK => ?_)
 · (
 simp only [Fact.G, Nat.reduceEqDiff, Nat.reduceLT, reduceIte, hf.size, Bool.not_true, Bool.not_false])
 go_simp
 refine hK.out _ _ ?_; clear hK K
 refine Fact.op_guard (g := 4) (d := 48) (b := false) rfl rfl rfl ?_ (fun K hK => ?_)
 · (
 simp only [Fact.G, Nat.reduceEqDiff, Nat.reduceLT, reduceIte, hf.size, Bool.not_true, Bool.not_false])
 go_simp
 refine hK.out _ _ ?_; clear hK K
 refine Fact.op_guard (g := 4) (d := 48) (b := false) rfl rfl rfl ?_ (fun K hK => ?_)
 · (
 simp only [Fact.G, Nat.reduceEqDiff, Nat.reduceLT, reduceIte, hf.size, Bool.not_true, Bool.not_false])
 go_simp
 refine hK.out _ _ ?_; clear hK K
 refine Fact.op_guard (g := 4) (d := 48) (b := false) rfl rfl rfl ?_ (fun K hK => ?_)
 · (
 simp only [Fact.G, Nat.reduceEqDiff, Nat.reduceLT, reduceIte, hf.size, Bool.not_true, Bool.not_false])
 go_simp
 refine hK.out _ _ ?_; clear hK K
 refine Fact.op_guard (g := 4) (d := 48) (b := false) rfl rfl rfl ?_ (fun K hK => ?_)
 · (
 simp only [Fact.G, Nat.reduceEqDiff, Nat.reduceLT, reduceIte, hf.size, Bool.not_true, Bool.not_false])
 go_simp
 go_at_call 17; refine (rstep17 q k hq0 hk3 S b wr2).mono ?_; rintro e w5 ⟨rfl, h5⟩
 dsimp only
 refine hK.out _ _ ?_; clear hK K
 refine Fact.op_guard (g := 4) (d := 48) (b := false) rfl rfl rfl ?_ (fun K hK => ?_)
 · (
 simp only [Fact.G, Nat.reduceEqDiff, Nat.reduceLT, reduceIte, hf.size, Bool.not_true, Bool.not_false])
 go_simp
 refine hK.out _ _ ?_; clear hK K
 refine Fact.op_guard (g := 4) (d := 48) (b := false) rfl rfl rfl ?_ (fun K hK => ?_)
 · (
 simp only [Fact.G, Nat.reduceEqDiff, Nat.reduceLT, reduceIte, hf.size, Bool.not_true, Bool.not_false])
 go_simp
 refine hK.out _ _ ?_; clear hK K
 refine Fact.op_guard (g := 1) (d := 45) (b := true) rfl rfl rfl ?_ (fun K hK => ?_)
 · (
 simp only [Fact.G, Nat.reduceEqDiff, Nat.reduceLT, reduceIte, hf.size, Bool.not_true, Bool.not_false])
 go_simp
 refine hK.out _ _ ?_; clear hK K
 refine Fact.p rfl fun K hK => ?_
 go_simp
 refine hK.out _ _ ?_; clear hK K
 refine Fact.nil ?_
 refine Fact.q hf (by simp only [Fact.G]) rfl fun fr1 hf1 hT => ?_
 have hKp : _ ∧ _ ∧ _ ∧ _ ∧ _ ∧ _ ∧ _ ∧ _ ∧ _ ∧ _ ∧ _ ∧ _ ∧ _ ∧ _ ∧ _ ∧ _ ∧ _ ∧ _ ∧ _ ∧ _ ∧ _ ∧ _ ∧ _ ∧ _ ∧ _ ∧ _ ∧ _ := ⟨hT 1, hT 2, hT 6, hT 7, hT 8, hT 9, hT 10, hT 11, hT 27, hT 28, hT 29, hT 30, hT 31, hT 44, hT 45, hT 46, hT 47, hT 48, hT 49, hT 50, hT 51, hT 52, hT 53, hT 54, hT 55, hT 56, hT 57⟩
 simp only [Fact.G, Nat.reduceEqDiff, Nat.reduceLT, hf.size, reduceIte, s1, s2, s6, s7, s8, s9, s10, s11, s27, s28, s29, s30, s31] at hKp
 clear hT hf s1 s2 s6 s7 s8 s9 s10 s11 s27 s28 s29 s30 s31 b44 b45 b46 b47 b48 b49 b50 b51 b52 b53 b54 b55 b56
 obtain ⟨s1, s2, s6, s7, s8, s9, s10, s11, s27, s28, s29, s30, s31, s44, s45, s46, s47, s48, s49, s50, s51, s52, s53, s54, s55, s56, s57⟩ := hKp
 have hf := hf1; clear hf1
 refine Fact.nx (hK24 _ _ ?_)
 try simp only [e57, Bool.not_false, bne] at s57
 refine Fact.cond_t s57 ?_
 have hbs5 := h5.size
 have hb6 : Below w5.heap.size w5 (w5.alloc (.cells #[.int .u8 (b : Int)] 5)) := (Below.refl _ _).alloc (Nat.le_refl _) _
 have ho6 := own_later (own_later ho h5) hb6
 have hbs6 := hb6.size
 have htl := told_length q k S b
 refine Fact.region ?_
 have b58 := hf.l 58 rfl
 have b59 := hf.l 59 rfl
 have b60 := hf.l 60 rfl
 have b61 := hf.l 61 rfl
 have b62 := hf.l 62 rfl
 refine Fact.p rfl fun K hK => ?_
 go_simp
 refine hK.out _ _ ?_; clear hK K
 refine Fact.p rfl fun K hK => ?_
 go_simp
 refine hK.out _ _ ?_; clear hK K
 refine Fact.p rfl fun K hK => ?_
 go_simp
 refine hK.out _ _ ?_; clear hK K
 refine Fact.p rfl fun K hK => ?_
 go_simp
 refine hK.out _ _ ?_; clear hK K
 refine Fact.reL (n := 70) (by simp only [Fact.G, hf.size]) hf.defers (fun fr1 hf1 hT => ?_)
 have hKp : _ ∧ _ ∧ _ ∧ _ ∧ _ ∧ _ ∧ _ ∧ _ ∧ _ ∧ _ ∧ _ ∧ _ ∧ _ ∧ _ ∧ _ ∧ _ ∧ _ ∧ _ ∧ _ ∧ _ ∧ _ ∧ _ ∧ _ ∧ _ ∧ _ ∧ _ ∧ _ ∧ _ ∧ _ ∧ _ ∧ _ := ⟨hT 1, hT 2, hT 6, hT 7, hT 8, hT 9, hT 10, hT 11, hT 27, hT 28, hT 29, hT 30, hT 31, hT 44, hT 45, hT 46, hT 47, hT 48, hT 49, hT 50, hT 51, hT 52, hT 53, hT 54, hT 55, hT 56, hT 57, hT 58, hT 59, hT 60, hT 61⟩
 simp only [Fact.G, Nat.reduceEqDiff, Nat.reduceLT, hf.size, reduceIte, s1, s2, s6, s7, s8, s9, s10, s11, s27, s28, s29, s30, s31, s44, s45, s46, s47, s48, s49, s50, s51, s52, s53, s54, s55, s56, s57] at hKp
 clear hT hf s1 s2 s6 s7 s8 s9 s10 s11 s27 s28 s29 s30 s31 s44 s45 s46 s47 s48 s49 s50 s51 s52 s53 s54 s55 s56 s57 b58 b59 b60 b61 b62
 obtain ⟨s1, s2, s6, s7, s8, s9, s10, s11, s27, s28, s29, s30, s31, s44, s45, s46, s47, s48, s49, s50, s51, s52, s53, s54, s55, s56, s57, s58, s59, s60, s61⟩ := hKp
 have hf := hf1; clear hf1
 have b62 := hf.l 62 rfl
 refine Fact.p rfl fun K hK => ?_
 refine wp_app8 _ _ rfl rfl w1.heap.size v (told q k S b) b (Fact.eval_tmp s58) ho6 w5.heap.size (Fact.eval_tmp s61) (one_cell8 w5 b) (by omega) (by omega) (fun v2 w7 ho7 hg7 hb7 => ?_)
 refine hK.out _ _ ?_; clear hK K
 refine Fact.p rfl fun K hK => ?_
 go_simp
 refine hK.out _ _ ?_; clear hK K
 refine Fact.nil ?_
 refine Fact.q hf (by simp only [Fact.G]) rfl fun fr1 hf1 hT => ?_
 have hKp : _ ∧ _ ∧ _ ∧ _ ∧ _ ∧ _ ∧ _ ∧ _ ∧ _ ∧ _ ∧ _ ∧ _ ∧ _ ∧ _ ∧ _ ∧ _ ∧ _ ∧ _ ∧ _ ∧ _ ∧ _ ∧ _ ∧ _ ∧ _ ∧ _ ∧ _ ∧ _ ∧ _ ∧ _ ∧ _ ∧ _ ∧ _ := ⟨hT 1, hT 2, hT 6, hT 7, hT 8, hT 9, hT 10, hT 11, hT 27, hT 28, hT 29, hT 30, hT 31, hT 44, hT 45, hT 46, hT 47, hT 48, hT 49, hT 50, hT 51, hT 52, hT 53, hT 54, hT 55, hT 56, hT 57, hT 58, hT 59, hT 60, hT 61, hT 62⟩
 simp only [Fact.G, Nat.reduceEqDiff, Nat.reduceLT, hf.size, reduceIte, s1, s2, s7, s8, s9, s10, s11, s27, s28, s29, s30, s31, s44, s45, s46, s47, s48, s49, s50, s51, s52, s53, s54, s55, s56, s57, s58, s59, s60, s61] at hKp
 clear hT hf s1 s2 s6 s7 s8 s9 s10 s11 s27 s28 s29 s30 s31 s44 s45 s46 s47 s48 s49 s50 s51 s52 s53 s54 s55 s56 s57 s58 s59 s60 s61 b62
 obtain ⟨s1, s2, s6, s7, s8, s9, s10, s11, s27, s28, s29, s30, s31, s44, s45, s46, s47, s48, s49, s50, s51, s52, s53, s54, s55, s56, s57, s58, s59, s60, s61, s62⟩ := hKp
 have hf := hf1; clear hf1
 refine Fact.block_normal ?_
 refine Fact.nx (hK14 _ _ ?_)
 refine Fact.region ?_
 have b25 := hf.l 25 rfl
 have b26 := hf.l 26 rfl
 refine Fact.p rfl fun K hK => ?_
 go_simp
 refine hK.out _ _ ?_; clear hK K
 refine Fact.p rfl fun K hK => ?_
 go_simp
 try simp (disch := omega) only [Fact.wrap_i64, Fact.wrap_u8, Fact.wrap_u32, Fact.wrap_u64]
 refine hK.out _ _ ?_; clear hK K
 refine Fact.p rfl fun K hK => ?_
 go_simp
 refine hK.out _ _ ?_; clear hK K
 refine Fact.nil ?_
 refine Fact.q hf (by simp only [Fact.G]) rfl fun fr1 hf1 hT => ?_
 have hKp : _ ∧ _ ∧ _ ∧ _ ∧ _ ∧ _ ∧ _ ∧ _ ∧ _ ∧ _ ∧ _ ∧ _ ∧ _ ∧ _ ∧ _ ∧ _ ∧ _ ∧ _ ∧ _ ∧ _ ∧ _ ∧ _ ∧ _ ∧ _ ∧ _ ∧ _ ∧ _ ∧ _ ∧ _ ∧ _ ∧ _ ∧ _ ∧ _ ∧ _ := ⟨hT 1, hT 2, hT 6, hT 7, hT 8, hT 9, hT 10, hT 11, hT 25, hT 26, hT 27, hT 28, hT 29, hT 30, hT 31, hT 44, hT 45, hT 46, hT 47, hT 48, hT 49, hT 50, hT 51, hT 52, hT 53, hT 54, hT 55, hT 56, hT 57, hT 58, hT 59, hT 60, hT 61, hT 62⟩
 simp only [Fact.G, Nat.reduceEqDiff, Nat.reduceLT, hf.size, reduceIte, s1, s2, s6, s7, s8, s10, s11, s27, s28, s29, s30, s31, s44, s45, s46, s47, s48, s49, s50, s51, s52, s53, s54, s55, s56, s57, s58, s59, s60, s61, s62] at hKp
 clear hT hf s1 s2 s6 s7 s8 s9 s10 s11 s27 s28 s29 s30 s31 s44 s45 s46 s47 s48 s49 s50 s51 s52 s53 s54 s55 s56 s57 s58 s59 s60 s61 s62 b25 b26
 obtain ⟨s1, s2, s6, s7, s8, s9, s10, s11, s25, s26, s27, s28, s29, s30, s31, s44, s45, s46, s47, s48, s49, s50, s51, s52, s53, s54, s55, s56, s57, s58, s59, s60, s61, s62⟩ := hKp
 have hf := hf1; clear hf1
 refine Fact.then_normal ?_
 exact ⟨_, by have := HK.out; omega, b + 1, _, rfl, by omega, (fun h => by cases h), hf, s1, s2, s6, s7, s8, by rw [s9]; rfl, by rw [told_yes hin (by rw [HV.out]; exact hst)]; exact ho7, hbr.trans (((h5.mono hbr.size).trans (hb6.mono (by omega))).trans hb7)⟩)))))))
end Lv
end Go.Proofs.Ytfgfichkcckhiaa
