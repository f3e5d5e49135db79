/- Lev: May; the law's state. -/
import Derived.Test.YtfgfichkcckhiaaLRef3
namespace Go.Proofs.Ytfgfichkcckhiaa
open Go.RowKit
set_option linter.unusedSimpArgs false
set_option linter.unusedVariables false
set_option linter.unnecessarySimpa false
namespace Lv
set_option maxHeartbeats 4000000 in
set_option maxRecDepth 100000 in
theorem may11_0 (q : ByteArray) (z : Int) (h1 : 255 < q.size) (w : World) : Calls Try.prog 11 #[.string q, .int .i64 z] w fun e w1 => e = .returned (.bool false) ∧ w = w1 := by
 have q1 : decide ((q.size : Int) ≤ 255) = false := decide_eq_false (by omega)
 refine calls_of_wp Try.func11 rfl ?_
 refine Fact.enter (n := 16) (by kernel_rfl) (fun fr hf hT => ?_)
 have s0 := hT 0 _ rfl
 have s1 := hT 1 _ rfl
 clear hT
 refine wp_seq_k (fun K1 hK1 => ?_)
 refine Fact.region ?_
 refine Fact.p rfl fun K hK => ?_
 go_simp
 refine hK.out _ _ ?_; clear hK K
 refine Fact.nil ?_
 refine Fact.q hf (by simp only [Fact.G]) rfl fun fr1 hf1 hT => ?_
 have hKp : _ ∧ _ ∧ _ := ⟨hT 0, hT 1, hT 4⟩
 simp only [Fact.G, Nat.reduceEqDiff, Nat.reduceLT, hf.size, reduceIte, s0, s1] at hKp
 clear hT hf s0 s1
 obtain ⟨s0, s1, s4⟩ := hKp
 have hf := hf1; clear hf1
 refine Fact.nx (hK1 _ _ ?_)
 refine wp_seq_k (fun K2 hK2 => ?_)
 refine Fact.region ?_
 have b5 := hf.l 5 rfl
 have b6 := hf.l 6 rfl
 have b7 := hf.l 7 rfl
 have b8 := hf.l 8 rfl
 have b9 := hf.l 9 rfl
 have b10 := hf.l 10 rfl
 have b11 := hf.l 11 rfl
 have b12 := hf.l 12 rfl
 have b13 := hf.l 13 rfl
 have b14 := hf.l 14 rfl
 have b15 := hf.l 15 rfl
 refine Fact.p rfl fun K hK => ?_
 go_simp
 refine hK.out _ _ ?_; clear hK K
 refine Fact.p rfl fun K hK => ?_
 go_simp
 refine hK.out _ _ ?_; clear hK K
 refine Fact.p rfl fun K hK => ?_
 go_simp
 refine hK.out _ _ ?_; clear hK K
 refine Fact.p rfl fun K hK => ?_
 go_simp
 refine hK.out _ _ ?_; clear hK K
 refine Fact.op_skip (g := 3) (d := 8) (b := true) rfl rfl rfl ?_ ?_
 · (
 simp only [Fact.G, Nat.reduceEqDiff, Nat.reduceLT, reduceIte, hf.size, Bool.not_true, Bool.not_false, q1])
 refine Fact.op_skip (g := 3) (d := 8) (b := true) rfl rfl rfl ?_ ?_
 · (
 simp only [Fact.G, Nat.reduceEqDiff, Nat.reduceLT, reduceIte, hf.size, Bool.not_true, Bool.not_false, q1])
 refine Fact.p rfl fun K hK => ?_
 go_simp
 refine hK.out _ _ ?_; clear hK K
 refine Fact.p rfl fun K hK => ?_
 go_simp
 refine hK.out _ _ ?_; clear hK K
 refine Fact.op_skip (g := 7) (d := 12) (b := true) rfl rfl rfl ?_ ?_
 · (
 simp only [Fact.G, Nat.reduceEqDiff, Nat.reduceLT, reduceIte, hf.size, Bool.not_true, Bool.not_false, q1])
 refine Fact.op_skip (g := 7) (d := 12) (b := true) rfl rfl rfl ?_ ?_
 · (
 simp only [Fact.G, Nat.reduceEqDiff, Nat.reduceLT, reduceIte, hf.size, Bool.not_true, Bool.not_false, q1])
 refine Fact.p rfl fun K hK => ?_
 go_simp
 refine hK.out _ _ ?_; clear hK K
 refine Fact.p rfl fun K hK => ?_
 go_simp
 refine hK.out _ _ ?_; clear hK K
 refine Fact.nil ?_
 refine Fact.q hf (by simp only [Fact.G]) rfl fun fr1 hf1 hT => ?_
 have hKp := hT 4
 simp only [Fact.G, Nat.reduceEqDiff, Nat.reduceLT, hf.size, reduceIte] at hKp
 clear hT hf s0 s1 s4 b5 b6 b7 b8 b9 b10 b11 b12 b13 b14 b15
 have s4 := hKp; clear hKp
 have hf := hf1; clear hf1
 refine Fact.nx (hK2 _ _ ?_)
 refine wp_ret ?_
 try simp only [q1] at s4
 exact Fact.ret1 rfl hf s4 ⟨rfl, rfl⟩
set_option maxHeartbeats 4000000 in
set_option maxRecDepth 100000 in
theorem may11_1 (q : ByteArray) (z : Int) (h1 : q.size ≤ 255) (h2 : z < 0) (w : World) : Calls Try.prog 11 #[.string q, .int .i64 z] w fun e w1 => e = .returned (.bool false) ∧ w = w1 := by
 have q1 : decide ((q.size : Int) ≤ 255) = true := decide_eq_true (by omega); have q2 : decide (0 ≤ z) = false := decide_eq_false (by omega)
 refine calls_of_wp Try.func11 rfl ?_
 refine Fact.enter (n := 16) (by kernel_rfl) (fun fr hf hT => ?_)
 have s0 := hT 0 _ rfl
 have s1 := hT 1 _ rfl
 clear hT
 refine wp_seq_k (fun K1 hK1 => ?_)
 refine Fact.region ?_
 refine Fact.p rfl fun K hK => ?_
 go_simp
 refine hK.out _ _ ?_; clear hK K
 refine Fact.nil ?_
 refine Fact.q hf (by simp only [Fact.G]) rfl fun fr1 hf1 hT => ?_
 have hKp : _ ∧ _ ∧ _ := ⟨hT 0, hT 1, hT 4⟩
 simp only [Fact.G, Nat.reduceEqDiff, Nat.reduceLT, hf.size, reduceIte, s0, s1] at hKp
 clear hT hf s0 s1
 obtain ⟨s0, s1, s4⟩ := hKp
 have hf := hf1; clear hf1
 refine Fact.nx (hK1 _ _ ?_)
 refine wp_seq_k (fun K2 hK2 => ?_)
 refine Fact.region ?_
 have b5 := hf.l 5 rfl
 have b6 := hf.l 6 rfl
 have b7 := hf.l 7 rfl
 have b8 := hf.l 8 rfl
 have b9 := hf.l 9 rfl
 have b10 := hf.l 10 rfl
 have b11 := hf.l 11 rfl
 have b12 := hf.l 12 rfl
 have b13 := hf.l 13 rfl
 have b14 := hf.l 14 rfl
 have b15 := hf.l 15 rfl
 refine Fact.p rfl fun K hK => ?_
 go_simp
 refine hK.out _ _ ?_; clear hK K
 refine Fact.p rfl fun K hK => ?_
 go_simp
 refine hK.out _ _ ?_; clear hK K
 refine Fact.p rfl fun K hK => ?_
 go_simp
 refine hK.out _ _ ?_; clear hK K
 refine Fact.p rfl fun K hK => ?_
 go_simp
 refine hK.out _ _ ?_; clear hK K
 refine Fact.op_guard (g := 3) (d := 8) (b := true) rfl rfl rfl ?_ (fun K hK => ?_)
 · (
 simp only [Fact.G, Nat.reduceEqDiff, Nat.reduceLT, reduceIte, hf.size, q1, q2])
 go_simp
 refine hK.out _ _ ?_; clear hK K
 refine Fact.op_guard (g := 3) (d := 8) (b := true) rfl rfl rfl ?_ (fun K hK => ?_)
 · (
 simp only [Fact.G, Nat.reduceEqDiff, Nat.reduceLT, reduceIte, hf.size, q1, q2])
 go_simp
 refine hK.out _ _ ?_; clear hK K
 refine Fact.p rfl fun K hK => ?_
 go_simp
 refine hK.out _ _ ?_; clear hK K
 refine Fact.p rfl fun K hK => ?_
 go_simp
 refine hK.out _ _ ?_; clear hK K
 refine Fact.op_skip (g := 7) (d := 12) (b := true) rfl rfl rfl ?_ ?_
 · (
 simp only [Fact.G, Nat.reduceEqDiff, Nat.reduceLT, reduceIte, hf.size, Bool.not_true, Bool.not_false, q1, q2])
 refine Fact.op_skip (g := 7) (d := 12) (b := true) rfl rfl rfl ?_ ?_
 · (
 simp only [Fact.G, Nat.reduceEqDiff, Nat.reduceLT, reduceIte, hf.size, Bool.not_true, Bool.not_false, q1, q2])
 refine Fact.p rfl fun K hK => ?_
 go_simp
 refine hK.out _ _ ?_; clear hK K
 refine Fact.p rfl fun K hK => ?_
 go_simp
 refine hK.out _ _ ?_; clear hK K
 refine Fact.nil ?_
 refine Fact.q hf (by simp only [Fact.G]) rfl fun fr1 hf1 hT => ?_
 have hKp := hT 4
 simp only [Fact.G, Nat.reduceEqDiff, Nat.reduceLT, hf.size, reduceIte] at hKp
 clear hT hf s0 s1 s4 b5 b6 b7 b8 b9 b10 b11 b12 b13 b14 b15
 have s4 := hKp; clear hKp
 have hf := hf1; clear hf1
 refine Fact.nx (hK2 _ _ ?_)
 refine wp_ret ?_
 try simp only [q1, q2] at s4
 exact Fact.ret1 rfl hf s4 ⟨rfl, rfl⟩
set_option maxHeartbeats 4000000 in
set_option maxRecDepth 100000 in
theorem may11_2 (q : ByteArray) (z : Int) (h1 : q.size ≤ 255) (h0 : 0 ≤ z) (h2 : 3 < z) (w : World) : Calls Try.prog 11 #[.string q, .int .i64 z] w fun e w1 => e = .returned (.bool false) ∧ w = w1 := by
 have q1 : decide ((q.size : Int) ≤ 255) = true := decide_eq_true (by omega); have q2 : decide (0 ≤ z) = true := decide_eq_true (by omega); have q3 : decide (z ≤ 3) = false := decide_eq_false (by omega)
 refine calls_of_wp Try.func11 rfl ?_
 refine Fact.enter (n := 16) (by kernel_rfl) (fun fr hf hT => ?_)
 have s0 := hT 0 _ rfl
 have s1 := hT 1 _ rfl
 clear hT
 refine wp_seq_k (fun K1 hK1 => ?_)
 refine Fact.region ?_
 refine Fact.p rfl fun K hK => ?_
 go_simp
 refine hK.out _ _ ?_; clear hK K
 refine Fact.nil ?_
 refine Fact.q hf (by simp only [Fact.G]) rfl fun fr1 hf1 hT => ?_
 have hKp : _ ∧ _ ∧ _ := ⟨hT 0, hT 1, hT 4⟩
 simp only [Fact.G, Nat.reduceEqDiff, Nat.reduceLT, hf.size, reduceIte, s0, s1] at hKp
 clear hT hf s0 s1
 obtain ⟨s0, s1, s4⟩ := hKp
 have hf := hf1; clear hf1
 refine Fact.nx (hK1 _ _ ?_)
 refine wp_seq_k (fun K2 hK2 => ?_)
 refine Fact.region ?_
 have b5 := hf.l 5 rfl
 have b6 := hf.l 6 rfl
 have b7 := hf.l 7 rfl
 have b8 := hf.l 8 rfl
 have b9 := hf.l 9 rfl
 have b10 := hf.l 10 rfl
 have b11 := hf.l 11 rfl
 have b12 := hf.l 12 rfl
 have b13 := hf.l 13 rfl
 have b14 := hf.l 14 rfl
 have b15 := hf.l 15 rfl
 refine Fact.p rfl fun K hK => ?_
 go_simp
 refine hK.out _ _ ?_; clear hK K
 refine Fact.p rfl fun K hK => ?_
 go_simp
 refine hK.out _ _ ?_; clear hK K
 refine Fact.p rfl fun K hK => ?_
 go_simp
 refine hK.out _ _ ?_; clear hK K
 refine Fact.p rfl fun K hK => ?_
 go_simp
 refine hK.out _ _ ?_; clear hK K
 refine Fact.op_guard (g := 3) (d := 8) (b := true) rfl rfl rfl ?_ (fun K hK => ?_)
 · (
 simp only [Fact.G, Nat.reduceEqDiff, Nat.reduceLT, reduceIte, hf.size, q1, q2, q3])
 go_simp
 refine hK.out _ _ ?_; clear hK K
 refine Fact.op_guard (g := 3) (d := 8) (b := true) rfl rfl rfl ?_ (fun K hK => ?_)
 · (
 simp only [Fact.G, Nat.reduceEqDiff, Nat.reduceLT, reduceIte, hf.size, q1, q2, q3])
 go_simp
 refine hK.out _ _ ?_; clear hK K
 refine Fact.p rfl fun K hK => ?_
 go_simp
 refine hK.out _ _ ?_; clear hK K
 refine Fact.p rfl fun K hK => ?_
 go_simp
 refine hK.out _ _ ?_; clear hK K
 refine Fact.op_guard (g := 7) (d := 12) (b := true) rfl rfl rfl ?_ (fun K hK => ?_)
 · (
 simp only [Fact.G, Nat.reduceEqDiff, Nat.reduceLT, reduceIte, hf.size, q1, q2, q3])
 go_simp
 refine hK.out _ _ ?_; clear hK K
 refine Fact.op_guard (g := 7) (d := 12) (b := true) rfl rfl rfl ?_ (fun K hK => ?_)
 · (
 simp only [Fact.G, Nat.reduceEqDiff, Nat.reduceLT, reduceIte, hf.size, q1, q2, q3])
 go_simp
 refine hK.out _ _ ?_; clear hK K
 refine Fact.p rfl fun K hK => ?_
 go_simp
 refine hK.out _ _ ?_; clear hK K
 refine Fact.p rfl fun K hK => ?_
 go_simp
 refine hK.out _ _ ?_; clear hK K
 refine Fact.nil ?_
 refine Fact.q hf (by simp only [Fact.G]) rfl fun fr1 hf1 hT => ?_
 have hKp := hT 4
 simp only [Fact.G, Nat.reduceEqDiff, Nat.reduceLT, hf.size, reduceIte] at hKp
 clear hT hf s0 s1 s4 b5 b6 b7 b8 b9 b10 b11 b12 b13 b14 b15
 have s4 := hKp; clear hKp
 have hf := hf1; clear hf1
 refine Fact.nx (hK2 _ _ ?_)
 refine wp_ret ?_
 try simp only [q1, q2, q3] at s4
 exact Fact.ret1 rfl hf s4 ⟨rfl, rfl⟩
set_option maxHeartbeats 4000000 in
set_option maxRecDepth 100000 in
theorem may11_3 (q : ByteArray) (z : Int) (h1 : q.size ≤ 255) (h0 : 0 ≤ z) (h2 : z ≤ 3) (w : World) : Calls Try.prog 11 #[.string q, .int .i64 z] w fun e w1 => e = .returned (.bool true) ∧ w = w1 := by
 have q1 : decide ((q.size : Int) ≤ 255) = true := decide_eq_true (by omega); have q2 : decide (0 ≤ z) = true := decide_eq_true (by omega); have q3 : decide (z ≤ 3) = true := decide_eq_true (by omega)
 refine calls_of_wp Try.func11 rfl ?_
 refine Fact.enter (n := 16) (by kernel_rfl) (fun fr hf hT => ?_)
 have s0 := hT 0 _ rfl
 have s1 := hT 1 _ rfl
 clear hT
 refine wp_seq_k (fun K1 hK1 => ?_)
 refine Fact.region ?_
 refine Fact.p rfl fun K hK => ?_
 go_simp
 refine hK.out _ _ ?_; clear hK K
 refine Fact.nil ?_
 refine Fact.q hf (by simp only [Fact.G]) rfl fun fr1 hf1 hT => ?_
 have hKp : _ ∧ _ ∧ _ := ⟨hT 0, hT 1, hT 4⟩
 simp only [Fact.G, Nat.reduceEqDiff, Nat.reduceLT, hf.size, reduceIte, s0, s1] at hKp
 clear hT hf s0 s1
 obtain ⟨s0, s1, s4⟩ := hKp
 have hf := hf1; clear hf1
 refine Fact.nx (hK1 _ _ ?_)
 refine wp_seq_k (fun K2 hK2 => ?_)
 refine Fact.region ?_
 have b5 := hf.l 5 rfl
 have b6 := hf.l 6 rfl
 have b7 := hf.l 7 rfl
 have b8 := hf.l 8 rfl
 have b9 := hf.l 9 rfl
 have b10 := hf.l 10 rfl
 have b11 := hf.l 11 rfl
 have b12 := hf.l 12 rfl
 have b13 := hf.l 13 rfl
 have b14 := hf.l 14 rfl
 have b15 := hf.l 15 rfl
 refine Fact.p rfl fun K hK => ?_
 go_simp
 refine hK.out _ _ ?_; clear hK K
 refine Fact.p rfl fun K hK => ?_
 go_simp
 refine hK.out _ _ ?_; clear hK K
 refine Fact.p rfl fun K hK => ?_
 go_simp
 refine hK.out _ _ ?_; clear hK K
 refine Fact.p rfl fun K hK => ?_
 go_simp
 refine hK.out _ _ ?_; clear hK K
 refine Fact.op_guard (g := 3) (d := 8) (b := true) rfl rfl rfl ?_ (fun K hK => ?_)
 · (
 simp only [Fact.G, Nat.reduceEqDiff, Nat.reduceLT, reduceIte, hf.size, q1, q2, q3])
 go_simp
 refine hK.out _ _ ?_; clear hK K
 refine Fact.op_guard (g := 3) (d := 8) (b := true) rfl rfl rfl ?_ (fun K hK => ?_)
 · (
 simp only [Fact.G, Nat.reduceEqDiff, Nat.reduceLT, reduceIte, hf.size, q1, q2, q3])
 go_simp
 refine hK.out _ _ ?_; clear hK K
 refine Fact.p rfl fun K hK => ?_
 go_simp
 refine hK.out _ _ ?_; clear hK K
 refine Fact.p rfl fun K hK => ?_
 go_simp
 refine hK.out _ _ ?_; clear hK K
 refine Fact.op_guard (g := 7) (d := 12) (b := true) rfl rfl rfl ?_ (fun K hK => ?_)
 · (
 simp only [Fact.G, Nat.reduceEqDiff, Nat.reduceLT, reduceIte, hf.size, q1, q2, q3])
 go_simp
 refine hK.out _ _ ?_; clear hK K
 refine Fact.op_guard (g := 7) (d := 12) (b := true) rfl rfl rfl ?_ (fun K hK => ?_)
 · (
 simp only [Fact.G, Nat.reduceEqDiff, Nat.reduceLT, reduceIte, hf.size, q1, q2, q3])
 go_simp
 refine hK.out _ _ ?_; clear hK K
 refine Fact.p rfl fun K hK => ?_
 go_simp
 refine hK.out _ _ ?_; clear hK K
 refine Fact.p rfl fun K hK => ?_
 go_simp
 refine hK.out _ _ ?_; clear hK K
 refine Fact.nil ?_
 refine Fact.q hf (by simp only [Fact.G]) rfl fun fr1 hf1 hT => ?_
 have hKp := hT 4
 simp only [Fact.G, Nat.reduceEqDiff, Nat.reduceLT, hf.size, reduceIte] at hKp
 clear hT hf s0 s1 s4 b5 b6 b7 b8 b9 b10 b11 b12 b13 b14 b15
 have s4 := hKp; clear hKp
 have hf := hf1; clear hf1
 refine Fact.nx (hK2 _ _ ?_)
 refine wp_ret ?_
 try simp only [q1, q2, q3] at s4
 exact Fact.ret1 rfl hf s4 ⟨rfl, rfl⟩
set_option maxHeartbeats 4000000 in
set_option maxRecDepth 100000 in
theorem state15 (w : World) (g : Nat) (q : ByteArray) (k : Nat) (hA : At w g q k) (S : ByteArray) : Calls Try.prog 15 #[.pointer (some ⟨g, 0, none⟩), .agg #[.string q, .int .i64 k], .string S] w fun e w1 => e = .returned (.bool true) ∧ Below w.heap.size w w1 := by
 refine calls_of_wp Try.func15 rfl ?_
 refine Fact.enter (n := 68) (by kernel_rfl) (fun fr hf hT => ?_)
 have s0 := hT 0 _ rfl
 have s1 := hT 1 _ rfl
 have s2 := hT 2 _ rfl
 clear hT
 obtain ⟨W0, hW0⟩ : ∃ W0, w.alloc (.cells #[.string q, .int .i64 k] 31) = W0 := ⟨_, rfl⟩
 obtain ⟨x0, x1, hb0⟩ := auto_cells w q k W0 hW0
 have hq0 := hA.hq; have hk3 := hA.hk
 have hA0 := hA.later hb0
 refine wp_seq_k (fun K1 hK1 => ?_)
 refine Fact.region ?_
 refine Fact.p rfl fun K hK => ?_
 go_simp
 refine hK.out _ _ ?_; clear hK K
 refine Fact.p rfl fun K hK => ?_
 go_simp
 refine hK.out _ _ ?_; clear hK K
 refine Fact.nil ?_
 refine Fact.q hf (by simp only [Fact.G]) rfl fun fr1 hf1 hT => ?_
 have hKp : _ ∧ _ ∧ _ ∧ _ := ⟨hT 0, hT 2, hT 4, hT 6⟩
 simp only [Fact.G, Nat.reduceEqDiff, Nat.reduceLT, hf.size, reduceIte, s0, s2] at hKp
 clear hT hf s0 s1 s2
 obtain ⟨s0, s2, s4, s6⟩ := hKp
 have hf := hf1; clear hf1
 refine Fact.nx (hK1 _ _ ?_)
 try rw [hW0]
 clear hW0
 refine wp_seq_k (fun K2 hK2 => ?_)
 refine Fact.region ?_
 have b16 := hf.l 16 rfl
 have b17 := hf.l 17 rfl
 have b18 := hf.l 18 rfl
 have b15 := hf.l 15 rfl
 have b19 := hf.l 19 rfl
 have b20 := hf.l 20 rfl
 refine Fact.p rfl fun K hK => ?_
 go_simp
 refine hK.out _ _ ?_; clear hK K
 refine Fact.p rfl fun K hK => ?_
 go_simp
 refine hK.out _ _ ?_; clear hK K
 refine Fact.p rfl fun K hK => ?_
 go_simp
 go_at_call 22; refine (dist22 W0 g q k hA0 S).mono ?_; rintro e w1 ⟨rfl, h1⟩
 dsimp only
 refine hK.out _ _ ?_; clear hK K
 refine Fact.p rfl fun K hK => ?_
 go_simp
 refine hK.out _ _ ?_; clear hK K
 refine Fact.p rfl fun K hK => ?_
 go_simp
 refine hK.out _ _ ?_; clear hK K
 refine Fact.p rfl fun K hK => ?_
 go_simp
 refine hK.out _ _ ?_; clear hK K
 refine Fact.p rfl fun K hK => ?_
 go_simp
 refine hK.out _ _ ?_; clear hK K
 refine Fact.p rfl fun K hK => ?_
 go_simp
 refine hK.out _ _ ?_; clear hK K
 refine Fact.nil ?_
 refine Fact.q hf (by simp only [Fact.G]) rfl fun fr1 hf1 hT => ?_
 have hKp : _ ∧ _ ∧ _ ∧ _ ∧ _ ∧ _ := ⟨hT 0, hT 2, hT 4, hT 6, hT 7, hT 8⟩
 simp only [Fact.G, Nat.reduceEqDiff, Nat.reduceLT, hf.size, reduceIte, s0, s2, s4, s6] at hKp
 clear hT hf s0 s2 s4 s6 b16 b17 b18 b15 b19 b20
 obtain ⟨s0, s2, s4, s6, s7, s8⟩ := hKp
 have hf := hf1; clear hf1
 refine Fact.nx (hK2 _ _ ?_)
 have hb1 := hb0.trans (h1.mono hb0.size)
 have hA1 := hA0.later h1
 have x0 := cell_later h1 x0; have x1 := cell_later h1 x1
 refine wp_seq_k (fun K3 hK3 => ?_)
 refine Fact.region ?_
 have b22 := hf.l 22 rfl
 have b23 := hf.l 23 rfl
 have b24 := hf.l 24 rfl
 have b21 := hf.l 21 rfl
 have b25 := hf.l 25 rfl
 have b26 := hf.l 26 rfl
 refine Fact.p rfl fun K hK => ?_
 go_simp
 refine hK.out _ _ ?_; clear hK K
 refine Fact.p rfl fun K hK => ?_
 go_simp
 refine hK.out _ _ ?_; clear hK K
 refine Fact.p rfl fun K hK => ?_
 go_simp
 go_at_call 31; refine (rdist31 q k hq0 hk3 S w1).mono ?_; rintro e w2 ⟨rfl, h2⟩
 dsimp only
 refine hK.out _ _ ?_; clear hK K
 refine Fact.p rfl fun K hK => ?_
 go_simp
 refine hK.out _ _ ?_; clear hK K
 refine Fact.p rfl fun K hK => ?_
 go_simp
 refine hK.out _ _ ?_; clear hK K
 refine Fact.p rfl fun K hK => ?_
 go_simp
 refine hK.out _ _ ?_; clear hK K
 refine Fact.p rfl fun K hK => ?_
 go_simp
 refine hK.out _ _ ?_; clear hK K
 refine Fact.p rfl fun K hK => ?_
 go_simp
 refine hK.out _ _ ?_; clear hK K
 refine Fact.nil ?_
 refine Fact.q hf (by simp only [Fact.G]) rfl fun fr1 hf1 hT => ?_
 have hKp : _ ∧ _ ∧ _ ∧ _ ∧ _ ∧ _ ∧ _ ∧ _ := ⟨hT 0, hT 2, hT 4, hT 6, hT 7, hT 8, hT 9, hT 10⟩
 simp only [Fact.G, Nat.reduceEqDiff, Nat.reduceLT, hf.size, reduceIte, s0, s2, s4, s6, s7, s8] at hKp
 clear hT hf s0 s2 s4 s6 s7 s8 b22 b23 b24 b21 b25 b26
 obtain ⟨s0, s2, s4, s6, s7, s8, s9, s10⟩ := hKp
 have hf := hf1; clear hf1
 refine Fact.nx (hK3 _ _ ?_)
 have hb2 := hb1.trans (h2.mono hb1.size)
 have hA2 := hA1.later h2
 have x0 := cell_later h2 x0; have x1 := cell_later h2 x1
 refine wp_seq_k (fun K4 hK4 => ?_)
 refine Fact.region ?_
 have b28 := hf.l 28 rfl
 have b29 := hf.l 29 rfl
 have b30 := hf.l 30 rfl
 have b27 := hf.l 27 rfl
 have b31 := hf.l 31 rfl
 have b32 := hf.l 32 rfl
 refine Fact.p rfl fun K hK => ?_
 go_simp
 refine hK.out _ _ ?_; clear hK K
 refine Fact.p rfl fun K hK => ?_
 go_simp
 refine hK.out _ _ ?_; clear hK K
 refine Fact.p rfl fun K hK => ?_
 go_simp
 go_at_call 24; refine (bytes24 w2 g q k hA2 S).mono ?_; rintro e w3 ⟨v3, rfl, ho3, h3⟩
 obtain ⟨A3, c3, rfl, hrow3⟩ := OB.row ho3
 clear ho3
 dsimp only
 refine hK.out _ _ ?_; clear hK K
 refine Fact.p rfl fun K hK => ?_
 go_simp
 refine hK.out _ _ ?_; clear hK K
 refine Fact.p rfl fun K hK => ?_
 go_simp
 refine hK.out _ _ ?_; clear hK K
 refine Fact.p rfl fun K hK => ?_
 go_simp
 refine hK.out _ _ ?_; clear hK K
 refine Fact.p rfl fun K hK => ?_
 go_simp
 refine hK.out _ _ ?_; clear hK K
 refine Fact.p rfl fun K hK => ?_
 go_simp
 refine hK.out _ _ ?_; clear hK K
 refine Fact.nil ?_
 refine Fact.q hf (by simp only [Fact.G]) rfl fun fr1 hf1 hT => ?_
 have hKp : _ ∧ _ ∧ _ ∧ _ ∧ _ ∧ _ ∧ _ ∧ _ ∧ _ ∧ _ := ⟨hT 0, hT 2, hT 4, hT 6, hT 7, hT 8, hT 9, hT 10, hT 11, hT 12⟩
 simp only [Fact.G, Nat.reduceEqDiff, Nat.reduceLT, hf.size, reduceIte, s0, s2, s4, s6, s7, s8, s9, s10] at hKp
 clear hT hf s0 s2 s4 s6 s7 s8 s9 s10 b28 b29 b30 b27 b31 b32
 obtain ⟨s0, s2, s4, s6, s7, s8, s9, s10, s11, s12⟩ := hKp
 have hf := hf1; clear hf1
 refine Fact.nx (hK4 _ _ ?_)
 have hb3 := hb2.trans (h3.mono hb2.size)
 have hA3 := hA2.later h3
 have x0 := cell_later h3 x0; have x1 := cell_later h3 x1
 refine wp_seq_k (fun K5 hK5 => ?_)
 refine Fact.region ?_
 have b34 := hf.l 34 rfl
 have b35 := hf.l 35 rfl
 have b36 := hf.l 36 rfl
 have b33 := hf.l 33 rfl
 have b37 := hf.l 37 rfl
 have b38 := hf.l 38 rfl
 refine Fact.p rfl fun K hK => ?_
 go_simp
 refine hK.out _ _ ?_; clear hK K
 refine Fact.p rfl fun K hK => ?_
 go_simp
 refine hK.out _ _ ?_; clear hK K
 refine Fact.p rfl fun K hK => ?_
 go_simp
 go_at_call 32; refine (rbytes32 q k hq0 hk3 S w3).mono ?_; rintro e w4 ⟨v4, rfl, ho4, h4⟩
 obtain ⟨A4, c4, rfl, hrow4⟩ := OB.row ho4
 clear ho4
 dsimp only
 refine hK.out _ _ ?_; clear hK K
 refine Fact.p rfl fun K hK => ?_
 go_simp
 refine hK.out _ _ ?_; clear hK K
 refine Fact.p rfl fun K hK => ?_
 go_simp
 refine hK.out _ _ ?_; clear hK K
 refine Fact.p rfl fun K hK => ?_
 go_simp
 refine hK.out _ _ ?_; clear hK K
 refine Fact.p rfl fun K hK => ?_
 go_simp
 refine hK.out _ _ ?_; clear hK K
 refine Fact.p rfl fun K hK => ?_
 go_simp
 refine hK.out _ _ ?_; clear hK K
 refine Fact.nil ?_
 refine Fact.q hf (by simp only [Fact.G]) rfl fun fr1 hf1 hT => ?_
 have hKp : _ ∧ _ ∧ _ ∧ _ ∧ _ ∧ _ ∧ _ ∧ _ ∧ _ ∧ _ ∧ _ ∧ _ := ⟨hT 0, hT 2, hT 4, hT 6, hT 7, hT 8, hT 9, hT 10, hT 11, hT 12, hT 13, hT 14⟩
 simp only [Fact.G, Nat.reduceEqDiff, Nat.reduceLT, hf.size, reduceIte, s0, s2, s4, s6, s7, s8, s9, s10, s11, s12] at hKp
 clear hT hf s0 s2 s4 s6 s7 s8 s9 s10 s11 s12 b34 b35 b36 b33 b37 b38
 obtain ⟨s0, s2, s4, s6, s7, s8, s9, s10, s11, s12, s13, s14⟩ := hKp
 have hf := hf1; clear hf1
 refine Fact.nx (hK5 _ _ ?_)
 have hb4 := hb3.trans (h4.mono hb3.size)
 have hA4 := hA3.later h4
 have x0 := cell_later h4 x0; have x1 := cell_later h4 x1
 have hrow3 := hrow3.later h4
 clear hA0 hA1 hA2 hA3
 obtain ⟨l, hl⟩ : ∃ l, bytesS q k S = l := ⟨_, rfl⟩
 rw [hl] at s11 s13 hrow3 hrow4
 clear hl
 refine wp_seq_k (fun K6 hK6 => ?_)
 refine Stab.todo_begin (n := 68) (Stab.OkOps.of (by kernel_rfl)) (fun hok => ?_)
 refine Stab.mvO (k := 0) s7 hf.size hok.out rfl rfl rfl (.inl rfl) (by kernel_rfl) ?_
 refine Stab.mvO (k := 1) s9 hf.size hok.out rfl rfl rfl (.inl rfl) (by kernel_rfl) ?_
 apply Stab.t 2 _ hf.size hok.out rfl
 · (
 intro fr1 w1 hh hd hk K hK
 refine Stab.op_plain (o := _) rfl rfl ?_
 have s39 := Stab.u 0 1 hd hk rfl [] (by kernel_rfl) rfl rfl rfl
 have s40 := Stab.u 1 0 hd hk rfl [] (by kernel_rfl) rfl rfl rfl
 clear hd
 go_simp
 try simp only [beq_self_eq_true]
 exact hK.out _ rfl _ _ (Below.refl _ _) rfl)
 refine Stab.mvN (k := 3) (j := 2) (m := 0) hf.size hok.out rfl rfl rfl (.inl rfl) rfl [] (by kernel_rfl) rfl rfl rfl ?_
 apply Stab.t 4 _ hf.size hok.out rfl
 · (
 intro fr1 w1 hh hd hk K hK
 have s42 := Stab.u 3 0 hd hk rfl [] (by kernel_rfl) rfl rfl rfl
 refine Stab.op_guard (o := _) rfl rfl rfl rfl s42 ?_
 have s8 := Stab.o hh (by kernel_rfl) s8
 clear hd
 go_simp
 exact hK.out _ rfl _ _ (Below.refl _ _) rfl)
 apply Stab.t 5 _ hf.size hok.out rfl
 · (
 intro fr1 w1 hh hd hk K hK
 have s42 := Stab.u 3 1 hd hk rfl [] (by kernel_rfl) rfl rfl rfl
 refine Stab.op_guard (o := _) rfl rfl rfl rfl s42 ?_
 have s10 := Stab.o hh (by kernel_rfl) s10
 clear hd
 go_simp
 exact hK.out _ rfl _ _ (Below.refl _ _) rfl)
 apply Stab.t 6 _ hf.size hok.out rfl
 · (
 intro fr1 w1 hh hd hk K hK
 have s42 := Stab.u 3 2 hd hk rfl [] (by kernel_rfl) rfl rfl rfl
 refine Stab.op_guard (o := _) rfl rfl rfl rfl s42 ?_
 have s43 := Stab.u 4 1 hd hk rfl [] (by kernel_rfl) rfl rfl rfl
 have s44 := Stab.u 5 0 hd hk rfl [] (by kernel_rfl) rfl rfl rfl
 clear hd
 go_simp
 try simp only [beq_self_eq_true]
 exact hK.out _ rfl _ _ (Below.refl _ _) rfl)
 apply Stab.t 7 _ hf.size hok.out rfl
 · (
 intro fr1 w1 hh hd hk K hK
 refine Stab.op_plain (o := _) rfl rfl ?_
 have s42 := Stab.u 3 3 hd hk rfl [] (by kernel_rfl) rfl rfl rfl
 have s45 := Stab.u 6 0 hd hk rfl [] (by kernel_rfl) rfl rfl rfl
 clear hd
 go_simp
 exact hK.out _ rfl _ _ (Below.refl _ _) rfl)
 refine Stab.mvN (k := 8) (j := 7) (m := 0) hf.size hok.out rfl rfl rfl (.inl rfl) rfl [] (by kernel_rfl) rfl rfl rfl ?_
 apply Stab.t 9 _ hf.size hok.out rfl
 · (
 intro fr1 w1 hh hd hk K hK
 have s47 := Stab.u 8 0 hd hk rfl [] (by kernel_rfl) rfl rfl rfl
 refine Stab.op_guard (o := _) rfl rfl rfl rfl s47 ?_
 have s0 := Stab.o hh (by kernel_rfl) s0
 clear hd
 go_simp
 exact hK.out _ rfl _ _ (Below.refl _ _) rfl)
 apply Stab.t 10 _ hf.size hok.out rfl
 · (
 intro fr1 w1 hh hd hk K hK
 have s47 := Stab.u 8 1 hd hk rfl [] (by kernel_rfl) rfl rfl rfl
 refine Stab.op_guard (o := _) rfl rfl rfl rfl s47 ?_
 have s2 := Stab.o hh (by kernel_rfl) s2
 clear hd
 go_simp
 exact hK.out _ rfl _ _ (Below.refl _ _) rfl)
 apply Stab.t 11 _ hf.size hok.out rfl
 · (
 intro fr1 w1 hh hd hk K hK
 have s47 := Stab.u 8 2 hd hk rfl [] (by kernel_rfl) rfl rfl rfl
 refine Stab.op_guard (o := _) rfl rfl rfl rfl s47 ?_
 have s48 := Stab.u 9 1 hd hk rfl [] (by kernel_rfl) rfl rfl rfl
 have s49 := Stab.u 10 0 hd hk rfl [] (by kernel_rfl) rfl rfl rfl
 clear hd
 go_simp
 go_at_call 21; refine (can21 w1 g q k (hA4.later hh.ext) S).mono ?_; rintro e w2 ⟨rfl, hb⟩
 exact hK.out _ rfl _ _ hb rfl)
 apply Stab.t 12 _ hf.size hok.out rfl
 · (
 intro fr1 w1 hh hd hk K hK
 have s47 := Stab.u 8 3 hd hk rfl [] (by kernel_rfl) rfl rfl rfl
 refine Stab.op_guard (o := _) rfl rfl rfl rfl s47 ?_
 have s4 := Stab.o hh (by kernel_rfl) s4
 clear hd
 have u0 := cell_later hh.ext x0; have u1 := cell_later hh.ext x1
 go_simp
 exact hK.out _ rfl _ _ (Below.refl _ _) rfl)
 apply Stab.t 13 _ hf.size hok.out rfl
 · (
 intro fr1 w1 hh hd hk K hK
 have s47 := Stab.u 8 4 hd hk rfl [] (by kernel_rfl) rfl rfl rfl
 refine Stab.op_guard (o := _) rfl rfl rfl rfl s47 ?_
 have s2 := Stab.o hh (by kernel_rfl) s2
 clear hd
 go_simp
 exact hK.out _ rfl _ _ (Below.refl _ _) rfl)
 apply Stab.t 14 _ hf.size hok.out rfl
 · (
 intro fr1 w1 hh hd hk K hK
 have s47 := Stab.u 8 5 hd hk rfl [] (by kernel_rfl) rfl rfl rfl
 refine Stab.op_guard (o := _) rfl rfl rfl rfl s47 ?_
 have s51 := Stab.u 12 1 hd hk rfl [] (by kernel_rfl) rfl rfl rfl
 have s52 := Stab.u 13 0 hd hk rfl [] (by kernel_rfl) rfl rfl rfl
 clear hd
 go_simp
 go_at_call 33; refine (rcan33 q k hq0 hk3 S w1).mono ?_; rintro e w2 ⟨rfl, hb⟩
 exact hK.out _ rfl _ _ hb rfl)
 apply Stab.t 15 _ hf.size hok.out rfl
 · (
 intro fr1 w1 hh hd hk K hK
 have s47 := Stab.u 8 6 hd hk rfl [] (by kernel_rfl) rfl rfl rfl
 refine Stab.op_guard (o := _) rfl rfl rfl rfl s47 ?_
 have s50 := Stab.u 11 3 hd hk rfl [] (by kernel_rfl) rfl rfl rfl
 have s53 := Stab.u 14 0 hd hk rfl [] (by kernel_rfl) rfl rfl rfl
 clear hd
 go_simp
 try simp only [beq_self_eq_true]
 exact hK.out _ rfl _ _ (Below.refl _ _) rfl)
 apply Stab.t 16 _ hf.size hok.out rfl
 · (
 intro fr1 w1 hh hd hk K hK
 refine Stab.op_plain (o := _) rfl rfl ?_
 have s47 := Stab.u 8 7 hd hk rfl [] (by kernel_rfl) rfl rfl rfl
 have s54 := Stab.u 15 0 hd hk rfl [] (by kernel_rfl) rfl rfl rfl
 clear hd
 go_simp
 exact hK.out _ rfl _ _ (Below.refl _ _) rfl)
 refine Stab.mvN (k := 17) (j := 16) (m := 0) hf.size hok.out rfl rfl rfl (.inl rfl) rfl [] (by kernel_rfl) rfl rfl rfl ?_
 apply Stab.t 18 _ hf.size hok.out rfl
 · (
 intro fr1 w1 hh hd hk K hK
 have s56 := Stab.u 17 0 hd hk rfl [] (by kernel_rfl) rfl rfl rfl
 refine Stab.op_guard (o := _) rfl rfl rfl rfl s56 ?_
 have s11 := Stab.o hh (by kernel_rfl) s11
 clear hd
 go_simp
 exact hK.out _ rfl _ _ (Below.refl _ _) rfl)
 apply Stab.t 19 _ hf.size hok.out rfl
 · (
 intro fr1 w1 hh hd hk K hK
 have s56 := Stab.u 17 1 hd hk rfl [] (by kernel_rfl) rfl rfl rfl
 refine Stab.op_guard (o := _) rfl rfl rfl rfl s56 ?_
 have s57 := Stab.u 18 0 hd hk rfl [] (by kernel_rfl) rfl rfl rfl
 clear hd
 have hcv := (hrow3.later hh.ext).conv (c := c3)
 go_simp
 exact hK.out _ rfl _ _ (Below.refl _ _) rfl)
 apply Stab.t 20 _ hf.size hok.out rfl
 · (
 intro fr1 w1 hh hd hk K hK
 have s56 := Stab.u 17 2 hd hk rfl [] (by kernel_rfl) rfl rfl rfl
 refine Stab.op_guard (o := _) rfl rfl rfl rfl s56 ?_
 have s13 := Stab.o hh (by kernel_rfl) s13
 clear hd
 go_simp
 exact hK.out _ rfl _ _ (Below.refl _ _) rfl)
 apply Stab.t 21 _ hf.size hok.out rfl
 · (
 intro fr1 w1 hh hd hk K hK
 have s56 := Stab.u 17 3 hd hk rfl [] (by kernel_rfl) rfl rfl rfl
 refine Stab.op_guard (o := _) rfl rfl rfl rfl s56 ?_
 have s59 := Stab.u 20 0 hd hk rfl [] (by kernel_rfl) rfl rfl rfl
 clear hd
 have hcv := (hrow4.later hh.ext).conv (c := c4)
 go_simp
 exact hK.out _ rfl _ _ (Below.refl _ _) rfl)
 apply Stab.t 22 _ hf.size hok.out rfl
 · (
 intro fr1 w1 hh hd hk K hK
 have s56 := Stab.u 17 4 hd hk rfl [] (by kernel_rfl) rfl rfl rfl
 refine Stab.op_guard (o := _) rfl rfl rfl rfl s56 ?_
 have s58 := Stab.u 19 2 hd hk rfl [] (by kernel_rfl) rfl rfl rfl
 have s60 := Stab.u 21 0 hd hk rfl [] (by kernel_rfl) rfl rfl rfl
 clear hd
 go_simp
 try simp only [beq_self_eq_true]
 exact hK.out _ rfl _ _ (Below.refl _ _) rfl)
 apply Stab.t 23 _ hf.size hok.out rfl
 · (
 intro fr1 w1 hh hd hk K hK
 refine Stab.op_plain (o := _) rfl rfl ?_
 have s56 := Stab.u 17 5 hd hk rfl [] (by kernel_rfl) rfl rfl rfl
 have s61 := Stab.u 22 0 hd hk rfl [] (by kernel_rfl) rfl rfl rfl
 clear hd
 go_simp
 exact hK.out _ rfl _ _ (Below.refl _ _) rfl)
 refine Stab.mvN (k := 24) (j := 23) (m := 0) hf.size hok.out rfl rfl rfl (.inl rfl) rfl [] (by kernel_rfl) rfl rfl rfl ?_
 apply Stab.t 25 _ hf.size hok.out rfl
 · (
 intro fr1 w1 hh hd hk K hK
 have s63 := Stab.u 24 0 hd hk rfl [] (by kernel_rfl) rfl rfl rfl
 refine Stab.op_guard (o := _) rfl rfl rfl rfl s63 ?_
 have s12 := Stab.o hh (by kernel_rfl) s12
 clear hd
 go_simp
 exact hK.out _ rfl _ _ (Below.refl _ _) rfl)
 apply Stab.t 26 _ hf.size hok.out rfl
 · (
 intro fr1 w1 hh hd hk K hK
 have s63 := Stab.u 24 1 hd hk rfl [] (by kernel_rfl) rfl rfl rfl
 refine Stab.op_guard (o := _) rfl rfl rfl rfl s63 ?_
 have s14 := Stab.o hh (by kernel_rfl) s14
 clear hd
 go_simp
 exact hK.out _ rfl _ _ (Below.refl _ _) rfl)
 apply Stab.t 27 _ hf.size hok.out rfl
 · (
 intro fr1 w1 hh hd hk K hK
 have s63 := Stab.u 24 2 hd hk rfl [] (by kernel_rfl) rfl rfl rfl
 refine Stab.op_guard (o := _) rfl rfl rfl rfl s63 ?_
 have s64 := Stab.u 25 1 hd hk rfl [] (by kernel_rfl) rfl rfl rfl
 have s65 := Stab.u 26 0 hd hk rfl [] (by kernel_rfl) rfl rfl rfl
 clear hd
 go_simp
 try simp only [beq_self_eq_true]
 exact hK.out _ rfl _ _ (Below.refl _ _) rfl)
 apply Stab.t 28 _ hf.size hok.out rfl
 · (
 intro fr1 w1 hh hd hk K hK
 refine Stab.op_plain (o := _) rfl rfl ?_
 have s63 := Stab.u 24 3 hd hk rfl [] (by kernel_rfl) rfl rfl rfl
 have s66 := Stab.u 27 0 hd hk rfl [] (by kernel_rfl) rfl rfl rfl
 clear hd
 go_simp
 exact hK.out _ rfl _ _ (Below.refl _ _) rfl)
 refine Stab.mvN (k := 29) (j := 28) (m := 0) hf.size hok.out rfl rfl rfl (.inr rfl) rfl [] (by kernel_rfl) rfl rfl rfl ?_
 refine Stab.todo_facts (n := 68) (by kernel_rfl) hf.size hok.out rfl (fun fr1 w1 hh hg => ?_)
 clear s6; have s6 := Stab.e 29 0 hg rfl rfl rfl rfl
 have hf1 : Fact.Fr 68 fr1 := ⟨hh.size.trans hf.size, hh.defers.trans hf.defers⟩
 have hx := hh.ext
 clear hg hh hf hok s0 s2 s4 s7 s8 s9 s10 s11 s12 s13 s14
 have hf := hf1; clear hf1
 refine Fact.nx (hK6 _ _ ?_)
 refine wp_ret ?_
 exact Fact.ret1 rfl hf s6 ⟨rfl, hb4.trans (hx.mono hb4.size)⟩
end Lv
end Go.Proofs.Ytfgfichkcckhiaa
