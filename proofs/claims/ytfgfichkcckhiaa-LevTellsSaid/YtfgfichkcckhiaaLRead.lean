/- Lev: Dist, Read. -/
import Derived.Test.YtfgfichkcckhiaaLStep
namespace Go.Proofs.Ytfgfichkcckhiaa
open Go.RowKit
set_option linter.unusedSimpArgs false
set_option linter.unusedVariables false
set_option linter.unnecessarySimpa false
namespace Lv
/-- behind several texts -/
def readL (q : ByteArray) (k : Nat) (S : ByteArray) (l : List ByteArray) : ByteArray := l.foldl (fun S t => readS q k S t) S
theorem readL_take {q : ByteArray} {k : Nat} {S : ByteArray} {l : List ByteArray} {i : Nat} {t : ByteArray} (h : l[i]? = some t) : readL q k S (l.take (i + 1)) = readS q k (readL q k S (l.take i)) t := by
  rw [List.take_add_one, h]
  simp [readL]
def totalB (l : List ByteArray) : Nat := (l.map ByteArray.size).sum
theorem total_take {l : List ByteArray} {i : Nat} {t : ByteArray} (h : l[i]? = some t) : totalB (l.take (i + 1)) = totalB (l.take i) + t.size := by
  rw [List.take_add_one, h]
  simp [totalB]
theorem bytes_cell (w : World) (t : ByteArray) (j : Nat) (hj : j < t.size) : (w.drew.alloc (.cells (bytesRow t (grownCap w t.size 0 5)) 5 ((bytesRow t (grownCap w t.size 0 5)).size, (bytesRow t (grownCap w t.size 0 5)).size + 1))).cell? ⟨w.heap.size, j, none⟩ = some (.int .u8 (at_ t j : Int)) := by
  show (w.drew.alloc (.cells (bytesRow t (grownCap w t.size 0 5)) 5 ((bytesRow t (grownCap w t.size 0 5)).size, (bytesRow t (grownCap w t.size 0 5)).size + 1))).cell? ⟨w.drew.heap.size, j, none⟩ = some (.int .u8 (at_ t j : Int))
  rw [cell_of_row _ _ j _ 5 _ (heap_alloc_new w.drew _), bytesRow_at t _ j hj, at_get hj]
  rfl
theorem nil_step (a t : Nat) (S : ByteArray) : (if 0 < t then (⟨#[]⟩ : ByteArray) else (if 0 < a then ⟨#[]⟩ else S)) = if 0 < a + t then ⟨#[]⟩ else S := by
  by_cases h1 : 0 < t
  · rw [if_pos h1, if_pos (by omega)]
  · obtain rfl : t = 0 := by omega
    rw [if_neg h1]
    rfl
set_option maxHeartbeats 4000000 in
set_option maxRecDepth 100000 in
theorem dist22n (S : ByteArray) (w : World) : Calls Try.prog 22 #[.pointer none, .string S] w fun e w1 => e = .returned (.tuple #[.int .i64 (0 : Nat), .bool (false)]) ∧ Below w.heap.size w w1 := by
 refine calls_of_wp Try.func22 rfl ?_
 refine Fact.enter (n := 31) (by kernel_rfl) (fun fr hf hT => ?_)
 have s0 := hT 0 _ rfl
 have s1 := hT 1 _ rfl
 clear hT
 refine wp_seq_k (fun K1 hK1 => ?_)
 refine Fact.region ?_
 refine Fact.p rfl fun K hK => ?_
 go_simp
 refine hK.out _ _ ?_; clear hK K
 refine Fact.p rfl fun K hK => ?_
 go_simp
 refine hK.out _ _ ?_; clear hK K
 refine Fact.nil ?_
 refine Fact.q hf (by simp only [Fact.G]) rfl fun fr1 hf1 hT => ?_
 have hKp : _ ∧ _ ∧ _ ∧ _ := ⟨hT 0, hT 1, hT 4, hT 5⟩
 simp only [Fact.G, Nat.reduceEqDiff, Nat.reduceLT, hf.size, reduceIte, s0, s1] at hKp
 clear hT hf s0 s1
 obtain ⟨s0, s1, s4, s5⟩ := hKp
 have hf := hf1; clear hf1
 refine Fact.nx (hK1 _ _ ?_)
 refine wp_seq_k (fun K2 hK2 => ?_)
 refine wp_seq_k (fun K3 hK3 => ?_)
 refine Fact.region ?_
 have b6 := hf.l 6 rfl
 have b7 := hf.l 7 rfl
 have b8 := hf.l 8 rfl
 have b9 := hf.l 9 rfl
 have b10 := hf.l 10 rfl
 have b11 := hf.l 11 rfl
 have b12 := hf.l 12 rfl
 have b13 := hf.l 13 rfl
 have b14 := hf.l 14 rfl
 have b15 := hf.l 15 rfl
 have b16 := hf.l 16 rfl
 have b17 := hf.l 17 rfl
 have b18 := hf.l 18 rfl
 have b19 := hf.l 19 rfl
 have b20 := hf.l 20 rfl
 have b21 := hf.l 21 rfl
 refine Fact.p rfl fun K hK => ?_
 go_simp
 refine hK.out _ _ ?_; clear hK K
 refine Fact.p rfl fun K hK => ?_
 go_simp
 refine hK.out _ _ ?_; clear hK K
 refine Fact.p rfl fun K hK => ?_
 go_simp
 go_at_call 34; refine (is34n S w).mono ?_; rintro e w1 ⟨rfl, hb1⟩
 dsimp only
 refine hK.out _ _ ?_; clear hK K
 refine Fact.p rfl fun K hK => ?_
 go_simp
 refine hK.out _ _ ?_; clear hK K
 refine Fact.p rfl fun K hK => ?_
 go_simp
 refine hK.out _ _ ?_; clear hK K
 refine Fact.op_skip (g := 4) (d := 10) (b := false) rfl rfl rfl ?_ ?_
 · (
 simp only [Fact.G, Nat.reduceEqDiff, Nat.reduceLT, reduceIte, hf.size, Bool.not_true, Bool.not_false, Bool.not_true, Bool.not_false])
 refine Fact.op_skip (g := 4) (d := 10) (b := false) rfl rfl rfl ?_ ?_
 · (
 simp only [Fact.G, Nat.reduceEqDiff, Nat.reduceLT, reduceIte, hf.size, Bool.not_true, Bool.not_false, Bool.not_true, Bool.not_false])
 refine Fact.op_skip (g := 4) (d := 10) (b := false) rfl rfl rfl ?_ ?_
 · (
 simp only [Fact.G, Nat.reduceEqDiff, Nat.reduceLT, reduceIte, hf.size, Bool.not_true, Bool.not_false, Bool.not_true, Bool.not_false])
 refine Fact.op_skip (g := 4) (d := 10) (b := false) rfl rfl rfl ?_ ?_
 · (
 simp only [Fact.G, Nat.reduceEqDiff, Nat.reduceLT, reduceIte, hf.size, Bool.not_true, Bool.not_false, Bool.not_true, Bool.not_false])
 refine Fact.op_skip (g := 4) (d := 10) (b := false) rfl rfl rfl ?_ ?_
 · (
 simp only [Fact.G, Nat.reduceEqDiff, Nat.reduceLT, reduceIte, hf.size, Bool.not_true, Bool.not_false, Bool.not_true, Bool.not_false])
 refine Fact.op_skip (g := 4) (d := 10) (b := false) rfl rfl rfl ?_ ?_
 · (
 simp only [Fact.G, Nat.reduceEqDiff, Nat.reduceLT, reduceIte, hf.size, Bool.not_true, Bool.not_false, Bool.not_true, Bool.not_false])
 refine Fact.op_skip (g := 4) (d := 10) (b := false) rfl rfl rfl ?_ ?_
 · (
 simp only [Fact.G, Nat.reduceEqDiff, Nat.reduceLT, reduceIte, hf.size, Bool.not_true, Bool.not_false, Bool.not_true, Bool.not_false])
 refine Fact.op_skip (g := 4) (d := 10) (b := false) rfl rfl rfl ?_ ?_
 · (
 simp only [Fact.G, Nat.reduceEqDiff, Nat.reduceLT, reduceIte, hf.size, Bool.not_true, Bool.not_false, Bool.not_true, Bool.not_false])
 refine Fact.op_skip (g := 4) (d := 10) (b := false) rfl rfl rfl ?_ ?_
 · (
 simp only [Fact.G, Nat.reduceEqDiff, Nat.reduceLT, reduceIte, hf.size, Bool.not_true, Bool.not_false, Bool.not_true, Bool.not_false])
 refine Fact.op_skip (g := 4) (d := 10) (b := false) rfl rfl rfl ?_ ?_
 · (
 simp only [Fact.G, Nat.reduceEqDiff, Nat.reduceLT, reduceIte, hf.size, Bool.not_true, Bool.not_false, Bool.not_true, Bool.not_false])
 refine Fact.op_skip (g := 4) (d := 10) (b := false) rfl rfl rfl ?_ ?_
 · (
 simp only [Fact.G, Nat.reduceEqDiff, Nat.reduceLT, reduceIte, hf.size, Bool.not_true, Bool.not_false, Bool.not_true, Bool.not_false])
 refine Fact.p rfl fun K hK => ?_
 go_simp
 refine hK.out _ _ ?_; clear hK K
 refine Fact.nil ?_
 refine Fact.q hf (by simp only [Fact.G]) rfl fun fr1 hf1 hT => ?_
 have hKp : _ ∧ _ ∧ _ ∧ _ ∧ _ := ⟨hT 0, hT 1, hT 4, hT 5, hT 22⟩
 simp only [Fact.G, Nat.reduceEqDiff, Nat.reduceLT, hf.size, reduceIte, s0, s1, s4, s5] at hKp
 clear hT hf s0 s1 s4 s5 b6 b7 b8 b9 b10 b11 b12 b13 b14 b15 b16 b17 b18 b19 b20 b21
 obtain ⟨s0, s1, s4, s5, s22⟩ := hKp
 have hf := hf1; clear hf1
 refine Fact.nx (hK3 _ _ ?_)
 refine Fact.cond_t s22 ?_
 refine wp_seq_k (fun K4 hK4 => ?_)
 refine Fact.region ?_
 refine Fact.p rfl fun K hK => ?_
 go_simp
 refine hK.out _ _ ?_; clear hK K
 refine Fact.p rfl fun K hK => ?_
 go_simp
 refine hK.out _ _ ?_; clear hK K
 refine Fact.nil ?_
 refine Fact.q hf (by simp only [Fact.G]) rfl fun fr1 hf1 hT => ?_
 have hKp : _ ∧ _ ∧ _ ∧ _ := ⟨hT 0, hT 1, hT 4, hT 5⟩
 simp only [Fact.G, Nat.reduceEqDiff, Nat.reduceLT, hf.size, reduceIte, s0, s1] at hKp
 clear hT hf s0 s1 s4 s5 s22
 obtain ⟨s0, s1, s4, s5⟩ := hKp
 have hf := hf1; clear hf1
 refine Fact.nx (hK4 _ _ ?_)
 refine wp_ret ?_
 refine Fact.then_ret ?_
 exact Fact.ret2 rfl hf s4 s5 ⟨rfl, hb1⟩
set_option maxHeartbeats 4000000 in
set_option maxRecDepth 100000 in
theorem dist22no (w : World) (g : Nat) (q : ByteArray) (k : Nat) (hA : At w g q k) (S : ByteArray) (hok : okS q k S = false) : Calls Try.prog 22 #[.pointer (some ⟨g, 0, none⟩), .string S] w fun e w1 => e = .returned (.tuple #[.int .i64 (distS q k S : Nat), .bool (isS q k S)]) ∧ Below w.heap.size w w1 := by
 refine calls_of_wp Try.func22 rfl ?_
 refine Fact.enter (n := 31) (by kernel_rfl) (fun fr hf hT => ?_)
 have s0 := hT 0 _ rfl
 have s1 := hT 1 _ rfl
 clear hT
 have q1 := hok
 refine wp_seq_k (fun K1 hK1 => ?_)
 refine Fact.region ?_
 refine Fact.p rfl fun K hK => ?_
 go_simp
 refine hK.out _ _ ?_; clear hK K
 refine Fact.p rfl fun K hK => ?_
 go_simp
 refine hK.out _ _ ?_; clear hK K
 refine Fact.nil ?_
 refine Fact.q hf (by simp only [Fact.G]) rfl fun fr1 hf1 hT => ?_
 have hKp : _ ∧ _ ∧ _ ∧ _ := ⟨hT 0, hT 1, hT 4, hT 5⟩
 simp only [Fact.G, Nat.reduceEqDiff, Nat.reduceLT, hf.size, reduceIte, s0, s1] at hKp
 clear hT hf s0 s1
 obtain ⟨s0, s1, s4, s5⟩ := hKp
 have hf := hf1; clear hf1
 refine Fact.nx (hK1 _ _ ?_)
 refine wp_seq_k (fun K2 hK2 => ?_)
 refine wp_seq_k (fun K3 hK3 => ?_)
 refine Fact.region ?_
 have b6 := hf.l 6 rfl
 have b7 := hf.l 7 rfl
 have b8 := hf.l 8 rfl
 have b9 := hf.l 9 rfl
 have b10 := hf.l 10 rfl
 have b11 := hf.l 11 rfl
 have b12 := hf.l 12 rfl
 have b13 := hf.l 13 rfl
 have b14 := hf.l 14 rfl
 have b15 := hf.l 15 rfl
 have b16 := hf.l 16 rfl
 have b17 := hf.l 17 rfl
 have b18 := hf.l 18 rfl
 have b19 := hf.l 19 rfl
 have b20 := hf.l 20 rfl
 have b21 := hf.l 21 rfl
 refine Fact.p rfl fun K hK => ?_
 go_simp
 refine hK.out _ _ ?_; clear hK K
 refine Fact.p rfl fun K hK => ?_
 go_simp
 refine hK.out _ _ ?_; clear hK K
 refine Fact.p rfl fun K hK => ?_
 go_simp
 go_at_call 34; refine (is34 w g q k hA S).mono ?_; rintro e w1 ⟨rfl, hb1⟩
 try rw [hok]
 dsimp only
 refine hK.out _ _ ?_; clear hK K
 refine Fact.p rfl fun K hK => ?_
 go_simp
 refine hK.out _ _ ?_; clear hK K
 refine Fact.p rfl fun K hK => ?_
 go_simp
 refine hK.out _ _ ?_; clear hK K
 refine Fact.op_skip (g := 4) (d := 10) (b := false) rfl rfl rfl ?_ ?_
 · (
 simp only [Fact.G, Nat.reduceEqDiff, Nat.reduceLT, reduceIte, hf.size, Bool.not_true, Bool.not_false, Bool.not_true, Bool.not_false])
 refine Fact.op_skip (g := 4) (d := 10) (b := false) rfl rfl rfl ?_ ?_
 · (
 simp only [Fact.G, Nat.reduceEqDiff, Nat.reduceLT, reduceIte, hf.size, Bool.not_true, Bool.not_false, Bool.not_true, Bool.not_false])
 refine Fact.op_skip (g := 4) (d := 10) (b := false) rfl rfl rfl ?_ ?_
 · (
 simp only [Fact.G, Nat.reduceEqDiff, Nat.reduceLT, reduceIte, hf.size, Bool.not_true, Bool.not_false, Bool.not_true, Bool.not_false])
 refine Fact.op_skip (g := 4) (d := 10) (b := false) rfl rfl rfl ?_ ?_
 · (
 simp only [Fact.G, Nat.reduceEqDiff, Nat.reduceLT, reduceIte, hf.size, Bool.not_true, Bool.not_false, Bool.not_true, Bool.not_false])
 refine Fact.op_skip (g := 4) (d := 10) (b := false) rfl rfl rfl ?_ ?_
 · (
 simp only [Fact.G, Nat.reduceEqDiff, Nat.reduceLT, reduceIte, hf.size, Bool.not_true, Bool.not_false, Bool.not_true, Bool.not_false])
 refine Fact.op_skip (g := 4) (d := 10) (b := false) rfl rfl rfl ?_ ?_
 · (
 simp only [Fact.G, Nat.reduceEqDiff, Nat.reduceLT, reduceIte, hf.size, Bool.not_true, Bool.not_false, Bool.not_true, Bool.not_false])
 refine Fact.op_skip (g := 4) (d := 10) (b := false) rfl rfl rfl ?_ ?_
 · (
 simp only [Fact.G, Nat.reduceEqDiff, Nat.reduceLT, reduceIte, hf.size, Bool.not_true, Bool.not_false, Bool.not_true, Bool.not_false])
 refine Fact.op_skip (g := 4) (d := 10) (b := false) rfl rfl rfl ?_ ?_
 · (
 simp only [Fact.G, Nat.reduceEqDiff, Nat.reduceLT, reduceIte, hf.size, Bool.not_true, Bool.not_false, Bool.not_true, Bool.not_false])
 refine Fact.op_skip (g := 4) (d := 10) (b := false) rfl rfl rfl ?_ ?_
 · (
 simp only [Fact.G, Nat.reduceEqDiff, Nat.reduceLT, reduceIte, hf.size, Bool.not_true, Bool.not_false, Bool.not_true, Bool.not_false])
 refine Fact.op_skip (g := 4) (d := 10) (b := false) rfl rfl rfl ?_ ?_
 · (
 simp only [Fact.G, Nat.reduceEqDiff, Nat.reduceLT, reduceIte, hf.size, Bool.not_true, Bool.not_false, Bool.not_true, Bool.not_false])
 refine Fact.op_skip (g := 4) (d := 10) (b := false) rfl rfl rfl ?_ ?_
 · (
 simp only [Fact.G, Nat.reduceEqDiff, Nat.reduceLT, reduceIte, hf.size, Bool.not_true, Bool.not_false, Bool.not_true, Bool.not_false])
 refine Fact.p rfl fun K hK => ?_
 go_simp
 refine hK.out _ _ ?_; clear hK K
 refine Fact.nil ?_
 refine Fact.q hf (by simp only [Fact.G]) rfl fun fr1 hf1 hT => ?_
 have hKp : _ ∧ _ ∧ _ ∧ _ ∧ _ := ⟨hT 0, hT 1, hT 4, hT 5, hT 22⟩
 simp only [Fact.G, Nat.reduceEqDiff, Nat.reduceLT, hf.size, reduceIte, s0, s1, s4, s5] at hKp
 clear hT hf s0 s1 s4 s5 b6 b7 b8 b9 b10 b11 b12 b13 b14 b15 b16 b17 b18 b19 b20 b21
 obtain ⟨s0, s1, s4, s5, s22⟩ := hKp
 have hf := hf1; clear hf1
 refine Fact.nx (hK3 _ _ ?_)
 refine Fact.cond_t s22 ?_
 refine wp_seq_k (fun K4 hK4 => ?_)
 refine Fact.region ?_
 refine Fact.p rfl fun K hK => ?_
 go_simp
 refine hK.out _ _ ?_; clear hK K
 refine Fact.p rfl fun K hK => ?_
 go_simp
 refine hK.out _ _ ?_; clear hK K
 refine Fact.nil ?_
 refine Fact.q hf (by simp only [Fact.G]) rfl fun fr1 hf1 hT => ?_
 have hKp : _ ∧ _ ∧ _ ∧ _ := ⟨hT 0, hT 1, hT 4, hT 5⟩
 simp only [Fact.G, Nat.reduceEqDiff, Nat.reduceLT, hf.size, reduceIte, s0, s1] at hKp
 clear hT hf s0 s1 s4 s5 s22
 obtain ⟨s0, s1, s4, s5⟩ := hKp
 have hf := hf1; clear hf1
 refine Fact.nx (hK4 _ _ ?_)
 refine wp_ret ?_
 refine Fact.then_ret ?_
 exact Fact.ret2 rfl hf s4 s5 ⟨by simp [distS, isS, hok], hb1⟩
set_option maxHeartbeats 4000000 in
set_option maxRecDepth 100000 in
theorem dist22far (w : World) (g : Nat) (q : ByteArray) (k : Nat) (hA : At w g q k) (S : ByteArray) (hok : okS q k S = true) (hgt : k < at_ S q.size) : Calls Try.prog 22 #[.pointer (some ⟨g, 0, none⟩), .string S] w fun e w1 => e = .returned (.tuple #[.int .i64 (distS q k S : Nat), .bool (isS q k S)]) ∧ Below w.heap.size w w1 := by
 refine calls_of_wp Try.func22 rfl ?_
 refine Fact.enter (n := 31) (by kernel_rfl) (fun fr hf hT => ?_)
 have s0 := hT 0 _ rfl
 have s1 := hT 1 _ rfl
 clear hT
 have q1 := hok
 have hsz := okS_size hok
 have hat1 : ∀ (i : Nat) (h : i < S.size), S[i].toNat = at_ S i := fun i h => (at_get h).symm
 have hq0 := hA.hq
 have hsl := at_lt S q.size
 have e1 : IntKind.i32.wrap ((at_ S q.size : Nat) : Int) = ((at_ S q.size : Nat) : Int) := IntWalk.i32_in _ ⟨by omega, by omega⟩
 have e2 : IntKind.i64.wrap ((at_ S q.size : Nat) : Int) = ((at_ S q.size : Nat) : Int) := Fact.wrap_i64 (by omega) (by omega)
 refine wp_seq_k (fun K1 hK1 => ?_)
 refine Fact.region ?_
 refine Fact.p rfl fun K hK => ?_
 go_simp
 refine hK.out _ _ ?_; clear hK K
 refine Fact.p rfl fun K hK => ?_
 go_simp
 refine hK.out _ _ ?_; clear hK K
 refine Fact.nil ?_
 refine Fact.q hf (by simp only [Fact.G]) rfl fun fr1 hf1 hT => ?_
 have hKp : _ ∧ _ ∧ _ ∧ _ := ⟨hT 0, hT 1, hT 4, hT 5⟩
 simp only [Fact.G, Nat.reduceEqDiff, Nat.reduceLT, hf.size, reduceIte, s0, s1] at hKp
 clear hT hf s0 s1
 obtain ⟨s0, s1, s4, s5⟩ := hKp
 have hf := hf1; clear hf1
 refine Fact.nx (hK1 _ _ ?_)
 refine wp_seq_k (fun K2 hK2 => ?_)
 refine wp_seq_k (fun K3 hK3 => ?_)
 refine Fact.region ?_
 have b6 := hf.l 6 rfl
 have b7 := hf.l 7 rfl
 have b8 := hf.l 8 rfl
 have b9 := hf.l 9 rfl
 have b10 := hf.l 10 rfl
 have b11 := hf.l 11 rfl
 have b12 := hf.l 12 rfl
 have b13 := hf.l 13 rfl
 have b14 := hf.l 14 rfl
 have b15 := hf.l 15 rfl
 have b16 := hf.l 16 rfl
 have b17 := hf.l 17 rfl
 have b18 := hf.l 18 rfl
 have b19 := hf.l 19 rfl
 have b20 := hf.l 20 rfl
 have b21 := hf.l 21 rfl
 refine Fact.p rfl fun K hK => ?_
 go_simp
 refine hK.out _ _ ?_; clear hK K
 refine Fact.p rfl fun K hK => ?_
 go_simp
 refine hK.out _ _ ?_; clear hK K
 refine Fact.p rfl fun K hK => ?_
 go_simp
 go_at_call 34; refine (is34 w g q k hA S).mono ?_; rintro e w1 ⟨rfl, hb1⟩
 try rw [hok]
 have c0 := (hA.later hb1).c0
 dsimp only
 refine hK.out _ _ ?_; clear hK K
 refine Fact.p rfl fun K hK => ?_
 go_simp
 refine hK.out _ _ ?_; clear hK K
 refine Fact.p rfl fun K hK => ?_
 go_simp
 refine hK.out _ _ ?_; clear hK K
 refine Fact.op_guard (g := 4) (d := 10) (b := false) rfl rfl rfl ?_ (fun K hK => ?_)
 · (
 simp only [Fact.G, Nat.reduceEqDiff, Nat.reduceLT, reduceIte, hf.size, Bool.not_true, Bool.not_false])
 go_simp
 refine hK.out _ _ ?_; clear hK K
 refine Fact.op_guard (g := 4) (d := 10) (b := false) rfl rfl rfl ?_ (fun K hK => ?_)
 · (
 simp only [Fact.G, Nat.reduceEqDiff, Nat.reduceLT, reduceIte, hf.size, Bool.not_true, Bool.not_false])
 go_simp
 refine hK.out _ _ ?_; clear hK K
 refine Fact.op_guard (g := 4) (d := 10) (b := false) rfl rfl rfl ?_ (fun K hK => ?_)
 · (
 simp only [Fact.G, Nat.reduceEqDiff, Nat.reduceLT, reduceIte, hf.size, Bool.not_true, Bool.not_false])
 go_simp
 refine hK.out _ _ ?_; clear hK K
 refine Fact.op_guard (g := 4) (d := 10) (b := false) rfl rfl rfl ?_ (fun K hK => ?_)
 · (
 simp only [Fact.G, Nat.reduceEqDiff, Nat.reduceLT, reduceIte, hf.size, Bool.not_true, Bool.not_false])
 go_simp
 refine hK.out _ _ ?_; clear hK K
 refine Fact.op_guard (g := 4) (d := 10) (b := false) rfl rfl rfl ?_ (fun K hK => ?_)
 · (
 simp only [Fact.G, Nat.reduceEqDiff, Nat.reduceLT, reduceIte, hf.size, Bool.not_true, Bool.not_false])
 go_simp
 refine hK.out _ _ ?_; clear hK K
 refine Fact.op_guard (g := 4) (d := 10) (b := false) rfl rfl rfl ?_ (fun K hK => ?_)
 · (
 simp only [Fact.G, Nat.reduceEqDiff, Nat.reduceLT, reduceIte, hf.size, Bool.not_true, Bool.not_false])
 go_simp
 refine hK.out _ _ ?_; clear hK K
 refine Fact.op_guard (g := 4) (d := 10) (b := false) rfl rfl rfl ?_ (fun K hK => ?_)
 · (
 simp only [Fact.G, Nat.reduceEqDiff, Nat.reduceLT, reduceIte, hf.size, Bool.not_true, Bool.not_false])
 go_simp
 refine hK.out _ _ ?_; clear hK K
 refine Fact.op_guard (g := 4) (d := 10) (b := false) rfl rfl rfl ?_ (fun K hK => ?_)
 · (
 simp only [Fact.G, Nat.reduceEqDiff, Nat.reduceLT, reduceIte, hf.size, Bool.not_true, Bool.not_false])
 go_simp
 try rw [if_pos (by omega)]
 refine hK.out _ _ ?_; clear hK K
 refine Fact.op_guard (g := 4) (d := 10) (b := false) rfl rfl rfl ?_ (fun K hK => ?_)
 · (
 simp only [Fact.G, Nat.reduceEqDiff, Nat.reduceLT, reduceIte, hf.size, Bool.not_true, Bool.not_false])
 go_simp
 refine hK.out _ _ ?_; clear hK K
 refine Fact.op_guard (g := 4) (d := 10) (b := false) rfl rfl rfl ?_ (fun K hK => ?_)
 · (
 simp only [Fact.G, Nat.reduceEqDiff, Nat.reduceLT, reduceIte, hf.size, Bool.not_true, Bool.not_false])
 go_simp
 go_at_call 38; refine (within38 w1 g q k _ (hA.later hb1) (by omega) (by omega)).mono ?_; rintro e w2 ⟨rfl, rfl⟩
 dsimp only
 refine hK.out _ _ ?_; clear hK K
 refine Fact.op_guard (g := 4) (d := 10) (b := false) rfl rfl rfl ?_ (fun K hK => ?_)
 · (
 simp only [Fact.G, Nat.reduceEqDiff, Nat.reduceLT, reduceIte, hf.size, Bool.not_true, Bool.not_false])
 go_simp
 refine hK.out _ _ ?_; clear hK K
 refine Fact.p rfl fun K hK => ?_
 go_simp
 refine hK.out _ _ ?_; clear hK K
 refine Fact.nil ?_
 refine Fact.q hf (by simp only [Fact.G]) rfl fun fr1 hf1 hT => ?_
 have hKp : _ ∧ _ ∧ _ ∧ _ ∧ _ := ⟨hT 0, hT 1, hT 4, hT 5, hT 22⟩
 simp only [Fact.G, Nat.reduceEqDiff, Nat.reduceLT, hf.size, reduceIte, s0, s1, s4, s5] at hKp
 clear hT hf s0 s1 s4 s5 b6 b7 b8 b9 b10 b11 b12 b13 b14 b15 b16 b17 b18 b19 b20 b21
 obtain ⟨s0, s1, s4, s5, s22⟩ := hKp
 have hf := hf1; clear hf1
 refine Fact.nx (hK3 _ _ ?_)
 have q2 : decide (at_ S q.size ≤ k) = false := decide_eq_false (by omega)
 try simp only [q2, Bool.not_false] at s22
 refine Fact.cond_t s22 ?_
 refine wp_seq_k (fun K4 hK4 => ?_)
 refine Fact.region ?_
 refine Fact.p rfl fun K hK => ?_
 go_simp
 refine hK.out _ _ ?_; clear hK K
 refine Fact.p rfl fun K hK => ?_
 go_simp
 refine hK.out _ _ ?_; clear hK K
 refine Fact.nil ?_
 refine Fact.q hf (by simp only [Fact.G]) rfl fun fr1 hf1 hT => ?_
 have hKp : _ ∧ _ ∧ _ ∧ _ := ⟨hT 0, hT 1, hT 4, hT 5⟩
 simp only [Fact.G, Nat.reduceEqDiff, Nat.reduceLT, hf.size, reduceIte, s0, s1] at hKp
 clear hT hf s0 s1 s4 s5 s22
 obtain ⟨s0, s1, s4, s5⟩ := hKp
 have hf := hf1; clear hf1
 refine Fact.nx (hK4 _ _ ?_)
 refine wp_ret ?_
 refine Fact.then_ret ?_
 exact Fact.ret2 rfl hf s4 s5 ⟨by simp [distS, isS, hok, show ¬ at_ S q.size ≤ k by omega], hb1⟩
set_option maxHeartbeats 4000000 in
set_option maxRecDepth 100000 in
theorem dist22yes (w : World) (g : Nat) (q : ByteArray) (k : Nat) (hA : At w g q k) (S : ByteArray) (hok : okS q k S = true) (hle : at_ S q.size ≤ k) : Calls Try.prog 22 #[.pointer (some ⟨g, 0, none⟩), .string S] w fun e w1 => e = .returned (.tuple #[.int .i64 (distS q k S : Nat), .bool (isS q k S)]) ∧ Below w.heap.size w w1 := by
 refine calls_of_wp Try.func22 rfl ?_
 refine Fact.enter (n := 31) (by kernel_rfl) (fun fr hf hT => ?_)
 have s0 := hT 0 _ rfl
 have s1 := hT 1 _ rfl
 clear hT
 have q1 := hok
 have hsz := okS_size hok
 have hat1 : ∀ (i : Nat) (h : i < S.size), S[i].toNat = at_ S i := fun i h => (at_get h).symm
 have hq0 := hA.hq
 have hsl := at_lt S q.size
 have e1 : IntKind.i32.wrap ((at_ S q.size : Nat) : Int) = ((at_ S q.size : Nat) : Int) := IntWalk.i32_in _ ⟨by omega, by omega⟩
 have e2 : IntKind.i64.wrap ((at_ S q.size : Nat) : Int) = ((at_ S q.size : Nat) : Int) := Fact.wrap_i64 (by omega) (by omega)
 refine wp_seq_k (fun K1 hK1 => ?_)
 refine Fact.region ?_
 refine Fact.p rfl fun K hK => ?_
 go_simp
 refine hK.out _ _ ?_; clear hK K
 refine Fact.p rfl fun K hK => ?_
 go_simp
 refine hK.out _ _ ?_; clear hK K
 refine Fact.nil ?_
 refine Fact.q hf (by simp only [Fact.G]) rfl fun fr1 hf1 hT => ?_
 have hKp : _ ∧ _ ∧ _ ∧ _ := ⟨hT 0, hT 1, hT 4, hT 5⟩
 simp only [Fact.G, Nat.reduceEqDiff, Nat.reduceLT, hf.size, reduceIte, s0, s1] at hKp
 clear hT hf s0 s1
 obtain ⟨s0, s1, s4, s5⟩ := hKp
 have hf := hf1; clear hf1
 refine Fact.nx (hK1 _ _ ?_)
 refine wp_seq_k (fun K2 hK2 => ?_)
 refine wp_seq_k (fun K3 hK3 => ?_)
 refine Fact.region ?_
 have b6 := hf.l 6 rfl
 have b7 := hf.l 7 rfl
 have b8 := hf.l 8 rfl
 have b9 := hf.l 9 rfl
 have b10 := hf.l 10 rfl
 have b11 := hf.l 11 rfl
 have b12 := hf.l 12 rfl
 have b13 := hf.l 13 rfl
 have b14 := hf.l 14 rfl
 have b15 := hf.l 15 rfl
 have b16 := hf.l 16 rfl
 have b17 := hf.l 17 rfl
 have b18 := hf.l 18 rfl
 have b19 := hf.l 19 rfl
 have b20 := hf.l 20 rfl
 have b21 := hf.l 21 rfl
 refine Fact.p rfl fun K hK => ?_
 go_simp
 refine hK.out _ _ ?_; clear hK K
 refine Fact.p rfl fun K hK => ?_
 go_simp
 refine hK.out _ _ ?_; clear hK K
 refine Fact.p rfl fun K hK => ?_
 go_simp
 go_at_call 34; refine (is34 w g q k hA S).mono ?_; rintro e w1 ⟨rfl, hb1⟩
 try rw [hok]
 have c0 := (hA.later hb1).c0
 dsimp only
 refine hK.out _ _ ?_; clear hK K
 refine Fact.p rfl fun K hK => ?_
 go_simp
 refine hK.out _ _ ?_; clear hK K
 refine Fact.p rfl fun K hK => ?_
 go_simp
 refine hK.out _ _ ?_; clear hK K
 refine Fact.op_guard (g := 4) (d := 10) (b := false) rfl rfl rfl ?_ (fun K hK => ?_)
 · (
 simp only [Fact.G, Nat.reduceEqDiff, Nat.reduceLT, reduceIte, hf.size, Bool.not_true, Bool.not_false])
 go_simp
 refine hK.out _ _ ?_; clear hK K
 refine Fact.op_guard (g := 4) (d := 10) (b := false) rfl rfl rfl ?_ (fun K hK => ?_)
 · (
 simp only [Fact.G, Nat.reduceEqDiff, Nat.reduceLT, reduceIte, hf.size, Bool.not_true, Bool.not_false])
 go_simp
 refine hK.out _ _ ?_; clear hK K
 refine Fact.op_guard (g := 4) (d := 10) (b := false) rfl rfl rfl ?_ (fun K hK => ?_)
 · (
 simp only [Fact.G, Nat.reduceEqDiff, Nat.reduceLT, reduceIte, hf.size, Bool.not_true, Bool.not_false])
 go_simp
 refine hK.out _ _ ?_; clear hK K
 refine Fact.op_guard (g := 4) (d := 10) (b := false) rfl rfl rfl ?_ (fun K hK => ?_)
 · (
 simp only [Fact.G, Nat.reduceEqDiff, Nat.reduceLT, reduceIte, hf.size, Bool.not_true, Bool.not_false])
 go_simp
 refine hK.out _ _ ?_; clear hK K
 refine Fact.op_guard (g := 4) (d := 10) (b := false) rfl rfl rfl ?_ (fun K hK => ?_)
 · (
 simp only [Fact.G, Nat.reduceEqDiff, Nat.reduceLT, reduceIte, hf.size, Bool.not_true, Bool.not_false])
 go_simp
 refine hK.out _ _ ?_; clear hK K
 refine Fact.op_guard (g := 4) (d := 10) (b := false) rfl rfl rfl ?_ (fun K hK => ?_)
 · (
 simp only [Fact.G, Nat.reduceEqDiff, Nat.reduceLT, reduceIte, hf.size, Bool.not_true, Bool.not_false])
 go_simp
 refine hK.out _ _ ?_; clear hK K
 refine Fact.op_guard (g := 4) (d := 10) (b := false) rfl rfl rfl ?_ (fun K hK => ?_)
 · (
 simp only [Fact.G, Nat.reduceEqDiff, Nat.reduceLT, reduceIte, hf.size, Bool.not_true, Bool.not_false])
 go_simp
 refine hK.out _ _ ?_; clear hK K
 refine Fact.op_guard (g := 4) (d := 10) (b := false) rfl rfl rfl ?_ (fun K hK => ?_)
 · (
 simp only [Fact.G, Nat.reduceEqDiff, Nat.reduceLT, reduceIte, hf.size, Bool.not_true, Bool.not_false])
 go_simp
 try rw [if_pos (by omega)]
 refine hK.out _ _ ?_; clear hK K
 refine Fact.op_guard (g := 4) (d := 10) (b := false) rfl rfl rfl ?_ (fun K hK => ?_)
 · (
 simp only [Fact.G, Nat.reduceEqDiff, Nat.reduceLT, reduceIte, hf.size, Bool.not_true, Bool.not_false])
 go_simp
 refine hK.out _ _ ?_; clear hK K
 refine Fact.op_guard (g := 4) (d := 10) (b := false) rfl rfl rfl ?_ (fun K hK => ?_)
 · (
 simp only [Fact.G, Nat.reduceEqDiff, Nat.reduceLT, reduceIte, hf.size, Bool.not_true, Bool.not_false])
 go_simp
 go_at_call 38; refine (within38 w1 g q k _ (hA.later hb1) (by omega) (by omega)).mono ?_; rintro e w2 ⟨rfl, rfl⟩
 dsimp only
 refine hK.out _ _ ?_; clear hK K
 refine Fact.op_guard (g := 4) (d := 10) (b := false) rfl rfl rfl ?_ (fun K hK => ?_)
 · (
 simp only [Fact.G, Nat.reduceEqDiff, Nat.reduceLT, reduceIte, hf.size, Bool.not_true, Bool.not_false])
 go_simp
 refine hK.out _ _ ?_; clear hK K
 refine Fact.p rfl fun K hK => ?_
 go_simp
 refine hK.out _ _ ?_; clear hK K
 refine Fact.nil ?_
 refine Fact.q hf (by simp only [Fact.G]) rfl fun fr1 hf1 hT => ?_
 have hKp : _ ∧ _ ∧ _ ∧ _ ∧ _ := ⟨hT 0, hT 1, hT 4, hT 5, hT 22⟩
 simp only [Fact.G, Nat.reduceEqDiff, Nat.reduceLT, hf.size, reduceIte, s0, s1, s4, s5] at hKp
 clear hT hf s0 s1 s4 s5 b6 b7 b8 b9 b10 b11 b12 b13 b14 b15 b16 b17 b18 b19 b20 b21
 obtain ⟨s0, s1, s4, s5, s22⟩ := hKp
 have hf := hf1; clear hf1
 refine Fact.nx (hK3 _ _ ?_)
 have q2 : decide (at_ S q.size ≤ k) = true := decide_eq_true (by omega)
 try simp only [q2, Bool.not_true] at s22
 refine Fact.cond_f s22 ?_
 refine wp_skip ?_
 refine Fact.nx (hK2 _ _ ?_)
 refine wp_seq_k (fun K4 hK4 => ?_)
 refine Fact.region ?_
 have b23 := hf.l 23 rfl
 have b24 := hf.l 24 rfl
 have b25 := hf.l 25 rfl
 have b26 := hf.l 26 rfl
 have b27 := hf.l 27 rfl
 have b28 := hf.l 28 rfl
 have b29 := hf.l 29 rfl
 have b30 := hf.l 30 rfl
 refine Fact.p rfl fun K hK => ?_
 go_simp
 refine hK.out _ _ ?_; clear hK K
 refine Fact.p rfl fun K hK => ?_
 go_simp
 refine hK.out _ _ ?_; clear hK K
 refine Fact.p rfl fun K hK => ?_
 go_simp
 refine hK.out _ _ ?_; clear hK K
 refine Fact.p rfl fun K hK => ?_
 go_simp
 refine hK.out _ _ ?_; clear hK K
 refine Fact.p rfl fun K hK => ?_
 go_simp
 refine hK.out _ _ ?_; clear hK K
 refine Fact.p rfl fun K hK => ?_
 go_simp
 refine hK.out _ _ ?_; clear hK K
 refine Fact.p rfl fun K hK => ?_
 go_simp
 try rw [if_pos (by omega)]
 refine hK.out _ _ ?_; clear hK K
 refine Fact.p rfl fun K hK => ?_
 go_simp
 refine hK.out _ _ ?_; clear hK K
 refine Fact.p rfl fun K hK => ?_
 go_simp
 refine hK.out _ _ ?_; clear hK K
 refine Fact.p rfl fun K hK => ?_
 go_simp
 refine hK.out _ _ ?_; clear hK K
 refine Fact.nil ?_
 refine Fact.q hf (by simp only [Fact.G]) rfl fun fr1 hf1 hT => ?_
 have hKp : _ ∧ _ := ⟨hT 4, hT 5⟩
 simp only [Fact.G, Nat.reduceEqDiff, Nat.reduceLT, hf.size, reduceIte] at hKp
 clear hT hf s0 s1 s4 s5 s22 b23 b24 b25 b26 b27 b28 b29 b30
 obtain ⟨s4, s5⟩ := hKp
 have hf := hf1; clear hf1
 refine Fact.nx (hK4 _ _ ?_)
 refine wp_ret ?_
 exact Fact.ret2 rfl hf s4 s5 ⟨by simp [distS, isS, hok, hle], hb1⟩
theorem dist22 (w : World) (g : Nat) (q : ByteArray) (k : Nat) (hA : At w g q k) (S : ByteArray) : Calls Try.prog 22 #[.pointer (some ⟨g, 0, none⟩), .string S] w fun e w1 => e = .returned (.tuple #[.int .i64 (distS q k S : Nat), .bool (isS q k S)]) ∧ Below w.heap.size w w1 := by
  cases h : okS q k S with
  | true =>
    by_cases hle : at_ S q.size ≤ k
    · exact dist22yes w g q k hA S h hle
    · exact dist22far w g q k hA S h (by omega)
  | false => exact dist22no w g q k hA S h

set_option maxHeartbeats 4000000 in
set_option maxRecDepth 100000 in
theorem read18n (w : World) (S : ByteArray) (b c : Nat) (l : List ByteArray) (h : ∀ (i : Nat) (s : ByteArray), l[i]? = some s → w.cell? ⟨b, i, none⟩ = some (.string s)) (hsz : ∀ (i : Nat) (s : ByteArray), l[i]? = some s → s.size ≤ 1000000) (hll : l.length ≤ 1000) : Calls Try.prog 18 #[.pointer none, .string S, .slice (some ⟨b, 0, none⟩) l.length c] w fun e w1 => e = .returned (.string (if 0 < totalB l then ⟨#[]⟩ else S)) ∧ Below w.heap.size w w1 := by
 refine calls_of_wp Try.func18 rfl ?_
 refine Fact.enter (n := 31) (by kernel_rfl) (fun fr hf hT => ?_)
 have s0 := hT 0 _ rfl
 have s1 := hT 1 _ rfl
 have s2 := hT 2 _ rfl
 clear hT
 refine wp_seq_k (fun K1 hK1 => ?_)
 refine Fact.region ?_
 refine Fact.p rfl fun K hK => ?_
 go_simp
 refine hK.out _ _ ?_; clear hK K
 refine Fact.nil ?_
 refine Fact.q hf (by simp only [Fact.G]) rfl fun fr1 hf1 hT => ?_
 have hKp : _ ∧ _ ∧ _ ∧ _ := ⟨hT 0, hT 1, hT 2, hT 6⟩
 simp only [Fact.G, Nat.reduceEqDiff, Nat.reduceLT, hf.size, reduceIte, s0, s1, s2] at hKp
 clear hT hf s0 s1 s2
 obtain ⟨s0, s1, s2, s6⟩ := hKp
 have hf := hf1; clear hf1
 refine Fact.nx (hK1 _ _ ?_)
 refine wp_seq_k (fun K2 hK2 => ?_)
 refine wp_seq_k (fun K3 hK3 => ?_)
 refine Fact.region ?_
 have b11 := hf.l 11 rfl
 refine Fact.p rfl fun K hK => ?_
 go_simp
 refine hK.out _ _ ?_; clear hK K
 refine Fact.p rfl fun K hK => ?_
 go_simp
 refine hK.out _ _ ?_; clear hK K
 refine Fact.p rfl fun K hK => ?_
 go_simp
 refine hK.out _ _ ?_; clear hK K
 refine Fact.nil ?_
 refine Fact.q hf (by simp only [Fact.G]) rfl fun fr1 hf1 hT => ?_
 have hKp : _ ∧ _ ∧ _ ∧ _ ∧ _ ∧ _ := ⟨hT 0, hT 1, hT 6, hT 11, hT 12, hT 13⟩
 simp only [Fact.G, Nat.reduceEqDiff, Nat.reduceLT, hf.size, reduceIte, s0, s1, s6] at hKp
 clear hT hf s0 s1 s2 s6 b11
 obtain ⟨s0, s1, s6, s11, s12, s13⟩ := hKp
 have hf := hf1; clear hf1
 refine Fact.nx (hK3 _ _ ?_)
 refine wp_block ?_
 refine wp_loop_ghost (fun gk fr wr => ∃ (i : Nat) (X : ByteArray), gk = l.length - i ∧ i ≤ l.length ∧ Fact.Fr 31 fr ∧ fr.tmps[0]? = some (.pointer none) ∧ fr.tmps[1]? = some (.string X) ∧ fr.tmps[11]? = some (.slice (some ⟨b, 0, none⟩) l.length c) ∧ fr.tmps[12]? = some (.int .i64 l.length) ∧ fr.tmps[13]? = some (.int .i64 i) ∧ X = (if 0 < totalB (l.take i) then ⟨#[]⟩ else S) ∧ Below w.heap.size w wr) (l.length) ?_ ?_
 · (
 exact ⟨0, S, rfl, Nat.zero_le _, hf, s0, s1, s11, s12, s13, by simp [totalB], Below.refl _ _⟩)
 · (
 clear hf s0 s1 s6 s11 s12 s13
 rintro gk fr wr ⟨i, X, hk, hi, hf, s0, s1, s11, s12, s13, hX, hb⟩
 have HK := Lib.hid hk; have HX := Lib.hid hX; clear hk hX
 refine wp_seq_k (fun K4 hK4 => ?_)
 refine Fact.region ?_
 refine Fact.p rfl fun K hK => ?_
 go_simp
 refine hK.out _ _ ?_; clear hK K
 refine Fact.nil ?_
 refine Fact.q hf (by simp only [Fact.G]) rfl fun fr1 hf1 hT => ?_
 have hKp : _ ∧ _ ∧ _ ∧ _ ∧ _ ∧ _ := ⟨hT 0, hT 1, hT 11, hT 12, hT 13, hT 14⟩
 simp only [Fact.G, Nat.reduceEqDiff, Nat.reduceLT, hf.size, reduceIte, s0, s1, s11, s12, s13] at hKp
 clear hT hf s0 s1 s11 s12 s13
 obtain ⟨s0, s1, s11, s12, s13, s14⟩ := hKp
 have hf := hf1; clear hf1
 refine Fact.nx (hK4 _ _ ?_)
 refine wp_seq_k (fun K5 hK5 => ?_)
 refine Fact.cond_s s14 (fun hq => ?_) (fun hq => ?_)
 · (
 have hlt : i < l.length := by have h9 := of_decide_eq_true hq; omega
 obtain ⟨t, ht⟩ : ∃ t, l[i]? = some t := ⟨_, List.getElem?_eq_getElem hlt⟩
 have ct := cell_later hb (h i t ht)
 have HT := Lib.hid ht; clear ht
 have htz := hsz i t HT.out
 obtain ⟨W0, hW0⟩ : ∃ W0, wr.drew.alloc (.cells (bytesRow t (grownCap wr t.size 0 5)) 5 ((bytesRow t (grownCap wr t.size 0 5)).size, (bytesRow t (grownCap wr t.size 0 5)).size + 1)) = W0 := ⟨_, rfl⟩
 have HW0 := Lib.hid hW0; clear hW0
 have hb0 : Below wr.heap.size wr W0 := by rw [← HW0.out]; exact ((Below.refl _ wr).drew).alloc (Nat.le_refl _) _
 have hrow : ∀ j, j < t.size → W0.cell? ⟨wr.heap.size, j, none⟩ = some (.int .u8 (at_ t j : Int)) := fun j hj => by rw [← HW0.out]; exact bytes_cell wr t j hj
 refine wp_skip ?_
 refine Fact.nx (hK5 _ _ ?_)
 refine wp_seq_k (fun K6 hK6 => ?_)
 refine wp_block ?_
 refine wp_seq_k (fun K7 hK7 => ?_)
 refine Fact.region ?_
 have b15 := hf.l 15 rfl
 have b16 := hf.l 16 rfl
 refine Fact.p rfl fun K hK => ?_
 go_simp
 try rw [if_pos (by omega)]
 refine hK.out _ _ ?_; clear hK K
 refine Fact.p rfl fun K hK => ?_
 go_simp
 refine hK.out _ _ ?_; clear hK K
 refine Fact.p rfl fun K hK => ?_
 go_simp
 refine hK.out _ _ ?_; clear hK K
 refine Fact.nil ?_
 refine Fact.q hf (by simp only [Fact.G]) rfl fun fr1 hf1 hT => ?_
 have hKp : _ ∧ _ ∧ _ ∧ _ ∧ _ ∧ _ ∧ _ ∧ _ ∧ _ := ⟨hT 0, hT 1, hT 8, hT 11, hT 12, hT 13, hT 14, hT 15, hT 16⟩
 simp only [Fact.G, Nat.reduceEqDiff, Nat.reduceLT, hf.size, reduceIte, s0, s1, s11, s12, s13, s14] at hKp
 clear hT hf s0 s1 s11 s12 s13 s14 b15 b16
 obtain ⟨s0, s1, s8, s11, s12, s13, s14, s15, s16⟩ := hKp
 have hf := hf1; clear hf1
 refine Fact.nx (hK7 _ _ ?_)
 refine wp_seq_k (fun K8 hK8 => ?_)
 refine Fact.region ?_
 have b17 := hf.l 17 rfl
 have b18 := hf.l 18 rfl
 refine Fact.p rfl fun K hK => ?_
 go_simp
 refine hK.out _ _ ?_; clear hK K
 refine Fact.p rfl fun K hK => ?_
 go_simp
 rw [run_bytes_of_string wr 9 38 5 t Try.underlying9 Try.underlying38 Try.underlying5]
 rw [HW0.out]
 refine hK.out _ _ ?_; clear hK K
 refine Fact.p rfl fun K hK => ?_
 go_simp
 refine hK.out _ _ ?_; clear hK K
 refine Fact.p rfl fun K hK => ?_
 go_simp
 refine hK.out _ _ ?_; clear hK K
 refine Fact.nil ?_
 refine Fact.q hf (by simp only [Fact.G]) rfl fun fr1 hf1 hT => ?_
 have hKp : _ ∧ _ ∧ _ ∧ _ ∧ _ ∧ _ ∧ _ ∧ _ ∧ _ ∧ _ ∧ _ ∧ _ ∧ _ := ⟨hT 0, hT 1, hT 8, hT 11, hT 12, hT 13, hT 14, hT 15, hT 16, hT 17, hT 18, hT 19, hT 20⟩
 simp only [Fact.G, Nat.reduceEqDiff, Nat.reduceLT, hf.size, reduceIte, s0, s1, s8, s11, s12, s13, s14, s15, s16] at hKp
 clear hT hf s0 s1 s8 s11 s12 s13 s14 s15 s16 b17 b18
 obtain ⟨s0, s1, s8, s11, s12, s13, s14, s15, s16, s17, s18, s19, s20⟩ := hKp
 have hf := hf1; clear hf1
 refine Fact.nx (hK8 _ _ ?_)
 refine wp_block ?_
 clear ct
 refine wp_loop_ghost (fun g2 fr wr2 => ∃ (j : Nat) (Y : ByteArray) (c2 : Nat), g2 = t.size - j ∧ j ≤ t.size ∧ Fact.Fr 31 fr ∧ fr.tmps[0]? = some (.pointer none) ∧ fr.tmps[1]? = some (.string Y) ∧ fr.tmps[11]? = some (.slice (some ⟨b, 0, none⟩) l.length c) ∧ fr.tmps[12]? = some (.int .i64 l.length) ∧ fr.tmps[13]? = some (.int .i64 i) ∧ fr.tmps[18]? = some (.slice (some ⟨wr.heap.size, 0, none⟩) t.size c2) ∧ fr.tmps[19]? = some (.int .i64 t.size) ∧ fr.tmps[20]? = some (.int .i64 j) ∧ Y = (if 0 < j then ⟨#[]⟩ else X) ∧ Below W0.heap.size W0 wr2) (t.size) ?_ ?_
 · (
 exact ⟨0, X, _, rfl, Nat.zero_le _, hf, s0, s1, s11, s12, s13, s18, s19, s20, rfl, Below.refl _ _⟩)
 · (
 clear hf s0 s1 s8 s11 s12 s13 s14 s15 s16 s17 s18 s19 s20
 rintro g2 fr wr2 ⟨j, Y, c2, hk2, hj, hf, s0, s1, s11, s12, s13, s18, s19, s20, hY, hb2⟩
 have HK2 := Lib.hid hk2; have HY := Lib.hid hY; clear hk2 hY
 refine wp_seq_k (fun K9 hK9 => ?_)
 refine Fact.region ?_
 refine Fact.p rfl fun K hK => ?_
 go_simp
 refine hK.out _ _ ?_; clear hK K
 refine Fact.nil ?_
 refine Fact.q hf (by simp only [Fact.G]) rfl fun fr1 hf1 hT => ?_
 have hKp : _ ∧ _ ∧ _ ∧ _ ∧ _ ∧ _ ∧ _ ∧ _ ∧ _ := ⟨hT 0, hT 1, hT 11, hT 12, hT 13, hT 18, hT 19, hT 20, hT 21⟩
 simp only [Fact.G, Nat.reduceEqDiff, Nat.reduceLT, hf.size, reduceIte, s0, s1, s11, s12, s13, s18, s19, s20] at hKp
 clear hT hf s0 s1 s11 s12 s13 s18 s19 s20
 obtain ⟨s0, s1, s11, s12, s13, s18, s19, s20, s21⟩ := hKp
 have hf := hf1; clear hf1
 refine Fact.nx (hK9 _ _ ?_)
 refine wp_seq_k (fun K10 hK10 => ?_)
 refine Fact.cond_s s21 (fun hq2 => ?_) (fun hq2 => ?_)
 · (
 have hjt : j < t.size := by have h9 := of_decide_eq_true hq2; omega
 have cj := cell_later hb2 (hrow j hjt)
 refine wp_skip ?_
 refine Fact.nx (hK10 _ _ ?_)
 refine wp_seq_k (fun K11 hK11 => ?_)
 refine wp_block ?_
 refine wp_seq_k (fun K12 hK12 => ?_)
 refine Fact.region ?_
 have b22 := hf.l 22 rfl
 have b23 := hf.l 23 rfl
 refine Fact.p rfl fun K hK => ?_
 go_simp
 try rw [if_pos (by omega)]
 refine hK.out _ _ ?_; clear hK K
 refine Fact.p rfl fun K hK => ?_
 go_simp
 refine hK.out _ _ ?_; clear hK K
 refine Fact.p rfl fun K hK => ?_
 go_simp
 refine hK.out _ _ ?_; clear hK K
 refine Fact.nil ?_
 refine Fact.q hf (by simp only [Fact.G]) rfl fun fr1 hf1 hT => ?_
 have hKp : _ ∧ _ ∧ _ ∧ _ ∧ _ ∧ _ ∧ _ ∧ _ ∧ _ ∧ _ ∧ _ ∧ _ := ⟨hT 0, hT 1, hT 10, hT 11, hT 12, hT 13, hT 18, hT 19, hT 20, hT 21, hT 22, hT 23⟩
 simp only [Fact.G, Nat.reduceEqDiff, Nat.reduceLT, hf.size, reduceIte, s0, s1, s11, s12, s13, s18, s19, s20, s21] at hKp
 clear hT hf s0 s1 s11 s12 s13 s18 s19 s20 s21 b22 b23
 obtain ⟨s0, s1, s10, s11, s12, s13, s18, s19, s20, s21, s22, s23⟩ := hKp
 have hf := hf1; clear hf1
 refine Fact.nx (hK12 _ _ ?_)
 refine Fact.region ?_
 have b24 := hf.l 24 rfl
 have b25 := hf.l 25 rfl
 have b26 := hf.l 26 rfl
 have b27 := hf.l 27 rfl
 refine Fact.p rfl fun K hK => ?_
 go_simp
 refine hK.out _ _ ?_; clear hK K
 refine Fact.p rfl fun K hK => ?_
 go_simp
 refine hK.out _ _ ?_; clear hK K
 refine Fact.p rfl fun K hK => ?_
 go_simp
 refine hK.out _ _ ?_; clear hK K
 refine Fact.p rfl fun K hK => ?_
 go_simp
 go_at_call 16; refine (step16n Y (at_ t j) wr2).mono ?_; rintro e w3 ⟨rfl, hb3⟩
 dsimp only
 refine hK.out _ _ ?_; clear hK K
 refine Fact.p rfl fun K hK => ?_
 go_simp
 refine hK.out _ _ ?_; clear hK K
 refine Fact.nil ?_
 refine Fact.q hf (by simp only [Fact.G]) rfl fun fr1 hf1 hT => ?_
 have hKp : _ ∧ _ ∧ _ ∧ _ ∧ _ ∧ _ ∧ _ ∧ _ ∧ _ ∧ _ ∧ _ ∧ _ ∧ _ ∧ _ ∧ _ ∧ _ := ⟨hT 0, hT 1, hT 10, hT 11, hT 12, hT 13, hT 18, hT 19, hT 20, hT 21, hT 22, hT 23, hT 24, hT 25, hT 26, hT 27⟩
 simp only [Fact.G, Nat.reduceEqDiff, Nat.reduceLT, hf.size, reduceIte, s0, s10, s11, s12, s13, s18, s19, s20, s21, s22, s23] at hKp
 clear hT hf s0 s1 s10 s11 s12 s13 s18 s19 s20 s21 s22 s23 b24 b25 b26 b27
 obtain ⟨s0, s1, s10, s11, s12, s13, s18, s19, s20, s21, s22, s23, s24, s25, s26, s27⟩ := hKp
 have hf := hf1; clear hf1
 refine Fact.block_normal ?_
 refine Fact.nx (hK11 _ _ ?_)
 refine Fact.region ?_
 have b28 := hf.l 28 rfl
 refine Fact.p rfl fun K hK => ?_
 go_simp
 try simp (disch := omega) only [Fact.wrap_i64, Fact.wrap_u8, Fact.wrap_u32, Fact.wrap_u64]
 refine hK.out _ _ ?_; clear hK K
 refine Fact.p rfl fun K hK => ?_
 go_simp
 refine hK.out _ _ ?_; clear hK K
 refine Fact.nil ?_
 refine Fact.q hf (by simp only [Fact.G]) rfl fun fr1 hf1 hT => ?_
 have hKp : _ ∧ _ ∧ _ ∧ _ ∧ _ ∧ _ ∧ _ ∧ _ ∧ _ ∧ _ ∧ _ ∧ _ ∧ _ ∧ _ ∧ _ ∧ _ ∧ _ := ⟨hT 0, hT 1, hT 10, hT 11, hT 12, hT 13, hT 18, hT 19, hT 20, hT 21, hT 22, hT 23, hT 24, hT 25, hT 26, hT 27, hT 28⟩
 simp only [Fact.G, Nat.reduceEqDiff, Nat.reduceLT, hf.size, reduceIte, s0, s1, s10, s11, s12, s13, s18, s19, s21, s22, s23, s24, s25, s26, s27] at hKp
 clear hT hf s0 s1 s10 s11 s12 s13 s18 s19 s20 s21 s22 s23 s24 s25 s26 s27 b28
 obtain ⟨s0, s1, s10, s11, s12, s13, s18, s19, s20, s21, s22, s23, s24, s25, s26, s27, s28⟩ := hKp
 have hf := hf1; clear hf1
 refine Fact.then_normal ?_
 exact ⟨_, by have := HK2.out; omega, j + 1, _, _, rfl, by omega, hf, s0, s1, s11, s12, s13, s18, s19, s20, by rw [if_pos (by omega)], hb2.trans (hb3.mono hb2.size)⟩)
 · (
 have hje : j = t.size := by have h9 := of_decide_eq_false hq2; omega
 refine wp_exit ?_
 refine Fact.then_exit ?_
 refine Fact.then_exit ?_
 refine Fact.block_exit ?_
 refine Fact.block_normal ?_
 refine Fact.nx (hK6 _ _ ?_)
 refine Fact.region ?_
 have b29 := hf.l 29 rfl
 refine Fact.p rfl fun K hK => ?_
 go_simp
 try simp (disch := omega) only [Fact.wrap_i64, Fact.wrap_u8, Fact.wrap_u32, Fact.wrap_u64]
 refine hK.out _ _ ?_; clear hK K
 refine Fact.p rfl fun K hK => ?_
 go_simp
 refine hK.out _ _ ?_; clear hK K
 refine Fact.nil ?_
 refine Fact.q hf (by simp only [Fact.G]) rfl fun fr1 hf1 hT => ?_
 have hKp : _ ∧ _ ∧ _ ∧ _ ∧ _ ∧ _ ∧ _ ∧ _ ∧ _ ∧ _ := ⟨hT 0, hT 1, hT 11, hT 12, hT 13, hT 18, hT 19, hT 20, hT 21, hT 29⟩
 simp only [Fact.G, Nat.reduceEqDiff, Nat.reduceLT, hf.size, reduceIte, s0, s1, s11, s12, s18, s19, s20, s21] at hKp
 clear hT hf s0 s1 s11 s12 s13 s18 s19 s20 s21 b29
 obtain ⟨s0, s1, s11, s12, s13, s18, s19, s20, s21, s29⟩ := hKp
 have hf := hf1; clear hf1
 refine Fact.then_normal ?_
 exact ⟨_, by have := HK.out; omega, i + 1, _, rfl, by omega, hf, s0, s1, s11, s12, s13, by rw [HY.out, HX.out, total_take HT.out, hje, nil_step], (hb.trans (hb0.mono hb.size)).trans (hb2.mono (by have := hb.size; have := hb0.size; omega))⟩)))
 · (
 have hie : i = l.length := by have h9 := of_decide_eq_false hq; omega
 refine wp_exit ?_
 refine Fact.then_exit ?_
 refine Fact.then_exit ?_
 refine Fact.block_exit ?_
 refine Fact.nx (hK2 _ _ ?_)
 refine wp_seq_k (fun K13 hK13 => ?_)
 refine Fact.region ?_
 have b30 := hf.l 30 rfl
 refine Fact.p rfl fun K hK => ?_
 go_simp
 refine hK.out _ _ ?_; clear hK K
 refine Fact.p rfl fun K hK => ?_
 go_simp
 refine hK.out _ _ ?_; clear hK K
 refine Fact.nil ?_
 refine Fact.q hf (by simp only [Fact.G]) rfl fun fr1 hf1 hT => ?_
 have hKp := hT 6
 simp only [Fact.G, Nat.reduceEqDiff, Nat.reduceLT, hf.size, reduceIte] at hKp
 clear hT hf s0 s1 s11 s12 s13 s14 b30
 have s6 := hKp; clear hKp
 have hf := hf1; clear hf1
 refine Fact.nx (hK13 _ _ ?_)
 refine wp_ret ?_
 subst hie
 have hx := HX.out
 rw [List.take_length] at hx
 subst hx
 exact Fact.ret1 rfl hf s6 ⟨rfl, hb⟩))
set_option maxHeartbeats 4000000 in
set_option maxRecDepth 100000 in
theorem read18 (w : World) (g : Nat) (q : ByteArray) (k : Nat) (hA : At w g q k) (S : ByteArray) (b c : Nat) (l : List ByteArray) (h : ∀ (i : Nat) (s : ByteArray), l[i]? = some s → w.cell? ⟨b, i, none⟩ = some (.string s)) (hsz : ∀ (i : Nat) (s : ByteArray), l[i]? = some s → s.size ≤ 1000000) (hll : l.length ≤ 1000) : Calls Try.prog 18 #[.pointer (some ⟨g, 0, none⟩), .string S, .slice (some ⟨b, 0, none⟩) l.length c] w fun e w1 => e = .returned (.string (readL q k S l)) ∧ Below w.heap.size w w1 := by
 refine calls_of_wp Try.func18 rfl ?_
 refine Fact.enter (n := 31) (by kernel_rfl) (fun fr hf hT => ?_)
 have s0 := hT 0 _ rfl
 have s1 := hT 1 _ rfl
 have s2 := hT 2 _ rfl
 clear hT
 refine wp_seq_k (fun K1 hK1 => ?_)
 refine Fact.region ?_
 refine Fact.p rfl fun K hK => ?_
 go_simp
 refine hK.out _ _ ?_; clear hK K
 refine Fact.nil ?_
 refine Fact.q hf (by simp only [Fact.G]) rfl fun fr1 hf1 hT => ?_
 have hKp : _ ∧ _ ∧ _ ∧ _ := ⟨hT 0, hT 1, hT 2, hT 6⟩
 simp only [Fact.G, Nat.reduceEqDiff, Nat.reduceLT, hf.size, reduceIte, s0, s1, s2] at hKp
 clear hT hf s0 s1 s2
 obtain ⟨s0, s1, s2, s6⟩ := hKp
 have hf := hf1; clear hf1
 refine Fact.nx (hK1 _ _ ?_)
 refine wp_seq_k (fun K2 hK2 => ?_)
 refine wp_seq_k (fun K3 hK3 => ?_)
 refine Fact.region ?_
 have b11 := hf.l 11 rfl
 refine Fact.p rfl fun K hK => ?_
 go_simp
 refine hK.out _ _ ?_; clear hK K
 refine Fact.p rfl fun K hK => ?_
 go_simp
 refine hK.out _ _ ?_; clear hK K
 refine Fact.p rfl fun K hK => ?_
 go_simp
 refine hK.out _ _ ?_; clear hK K
 refine Fact.nil ?_
 refine Fact.q hf (by simp only [Fact.G]) rfl fun fr1 hf1 hT => ?_
 have hKp : _ ∧ _ ∧ _ ∧ _ ∧ _ ∧ _ := ⟨hT 0, hT 1, hT 6, hT 11, hT 12, hT 13⟩
 simp only [Fact.G, Nat.reduceEqDiff, Nat.reduceLT, hf.size, reduceIte, s0, s1, s6] at hKp
 clear hT hf s0 s1 s2 s6 b11
 obtain ⟨s0, s1, s6, s11, s12, s13⟩ := hKp
 have hf := hf1; clear hf1
 refine Fact.nx (hK3 _ _ ?_)
 refine wp_block ?_
 refine wp_loop_ghost (fun gk fr wr => ∃ (i : Nat) (X : ByteArray), gk = l.length - i ∧ i ≤ l.length ∧ Fact.Fr 31 fr ∧ fr.tmps[0]? = some (.pointer (some ⟨g, 0, none⟩)) ∧ fr.tmps[1]? = some (.string X) ∧ fr.tmps[11]? = some (.slice (some ⟨b, 0, none⟩) l.length c) ∧ fr.tmps[12]? = some (.int .i64 l.length) ∧ fr.tmps[13]? = some (.int .i64 i) ∧ X = readL q k S (l.take i) ∧ Below w.heap.size w wr) (l.length) ?_ ?_
 · (
 exact ⟨0, S, rfl, Nat.zero_le _, hf, s0, s1, s11, s12, s13, rfl, Below.refl _ _⟩)
 · (
 clear hf s0 s1 s6 s11 s12 s13
 rintro gk fr wr ⟨i, X, hk, hi, hf, s0, s1, s11, s12, s13, hX, hb⟩
 have HK := Lib.hid hk; have HX := Lib.hid hX; clear hk hX
 refine wp_seq_k (fun K4 hK4 => ?_)
 refine Fact.region ?_
 refine Fact.p rfl fun K hK => ?_
 go_simp
 refine hK.out _ _ ?_; clear hK K
 refine Fact.nil ?_
 refine Fact.q hf (by simp only [Fact.G]) rfl fun fr1 hf1 hT => ?_
 have hKp : _ ∧ _ ∧ _ ∧ _ ∧ _ ∧ _ := ⟨hT 0, hT 1, hT 11, hT 12, hT 13, hT 14⟩
 simp only [Fact.G, Nat.reduceEqDiff, Nat.reduceLT, hf.size, reduceIte, s0, s1, s11, s12, s13] at hKp
 clear hT hf s0 s1 s11 s12 s13
 obtain ⟨s0, s1, s11, s12, s13, s14⟩ := hKp
 have hf := hf1; clear hf1
 refine Fact.nx (hK4 _ _ ?_)
 refine wp_seq_k (fun K5 hK5 => ?_)
 refine Fact.cond_s s14 (fun hq => ?_) (fun hq => ?_)
 · (
 have hlt : i < l.length := by have h9 := of_decide_eq_true hq; omega
 obtain ⟨t, ht⟩ : ∃ t, l[i]? = some t := ⟨_, List.getElem?_eq_getElem hlt⟩
 have ct := cell_later hb (h i t ht)
 have HT := Lib.hid ht; clear ht
 have htz := hsz i t HT.out
 obtain ⟨W0, hW0⟩ : ∃ W0, wr.drew.alloc (.cells (bytesRow t (grownCap wr t.size 0 5)) 5 ((bytesRow t (grownCap wr t.size 0 5)).size, (bytesRow t (grownCap wr t.size 0 5)).size + 1)) = W0 := ⟨_, rfl⟩
 have HW0 := Lib.hid hW0; clear hW0
 have hb0 : Below wr.heap.size wr W0 := by rw [← HW0.out]; exact ((Below.refl _ wr).drew).alloc (Nat.le_refl _) _
 have hrow : ∀ j, j < t.size → W0.cell? ⟨wr.heap.size, j, none⟩ = some (.int .u8 (at_ t j : Int)) := fun j hj => by rw [← HW0.out]; exact bytes_cell wr t j hj
 refine wp_skip ?_
 refine Fact.nx (hK5 _ _ ?_)
 refine wp_seq_k (fun K6 hK6 => ?_)
 refine wp_block ?_
 refine wp_seq_k (fun K7 hK7 => ?_)
 refine Fact.region ?_
 have b15 := hf.l 15 rfl
 have b16 := hf.l 16 rfl
 refine Fact.p rfl fun K hK => ?_
 go_simp
 try rw [if_pos (by omega)]
 refine hK.out _ _ ?_; clear hK K
 refine Fact.p rfl fun K hK => ?_
 go_simp
 refine hK.out _ _ ?_; clear hK K
 refine Fact.p rfl fun K hK => ?_
 go_simp
 refine hK.out _ _ ?_; clear hK K
 refine Fact.nil ?_
 refine Fact.q hf (by simp only [Fact.G]) rfl fun fr1 hf1 hT => ?_
 have hKp : _ ∧ _ ∧ _ ∧ _ ∧ _ ∧ _ ∧ _ ∧ _ ∧ _ := ⟨hT 0, hT 1, hT 8, hT 11, hT 12, hT 13, hT 14, hT 15, hT 16⟩
 simp only [Fact.G, Nat.reduceEqDiff, Nat.reduceLT, hf.size, reduceIte, s0, s1, s11, s12, s13, s14] at hKp
 clear hT hf s0 s1 s11 s12 s13 s14 b15 b16
 obtain ⟨s0, s1, s8, s11, s12, s13, s14, s15, s16⟩ := hKp
 have hf := hf1; clear hf1
 refine Fact.nx (hK7 _ _ ?_)
 refine wp_seq_k (fun K8 hK8 => ?_)
 refine Fact.region ?_
 have b17 := hf.l 17 rfl
 have b18 := hf.l 18 rfl
 refine Fact.p rfl fun K hK => ?_
 go_simp
 refine hK.out _ _ ?_; clear hK K
 refine Fact.p rfl fun K hK => ?_
 go_simp
 rw [run_bytes_of_string wr 9 38 5 t Try.underlying9 Try.underlying38 Try.underlying5]
 rw [HW0.out]
 refine hK.out _ _ ?_; clear hK K
 refine Fact.p rfl fun K hK => ?_
 go_simp
 refine hK.out _ _ ?_; clear hK K
 refine Fact.p rfl fun K hK => ?_
 go_simp
 refine hK.out _ _ ?_; clear hK K
 refine Fact.nil ?_
 refine Fact.q hf (by simp only [Fact.G]) rfl fun fr1 hf1 hT => ?_
 have hKp : _ ∧ _ ∧ _ ∧ _ ∧ _ ∧ _ ∧ _ ∧ _ ∧ _ ∧ _ ∧ _ ∧ _ ∧ _ := ⟨hT 0, hT 1, hT 8, hT 11, hT 12, hT 13, hT 14, hT 15, hT 16, hT 17, hT 18, hT 19, hT 20⟩
 simp only [Fact.G, Nat.reduceEqDiff, Nat.reduceLT, hf.size, reduceIte, s0, s1, s8, s11, s12, s13, s14, s15, s16] at hKp
 clear hT hf s0 s1 s8 s11 s12 s13 s14 s15 s16 b17 b18
 obtain ⟨s0, s1, s8, s11, s12, s13, s14, s15, s16, s17, s18, s19, s20⟩ := hKp
 have hf := hf1; clear hf1
 refine Fact.nx (hK8 _ _ ?_)
 refine wp_block ?_
 clear ct
 refine wp_loop_ghost (fun g2 fr wr2 => ∃ (j : Nat) (Y : ByteArray) (c2 : Nat), g2 = t.size - j ∧ j ≤ t.size ∧ Fact.Fr 31 fr ∧ fr.tmps[0]? = some (.pointer (some ⟨g, 0, none⟩)) ∧ fr.tmps[1]? = some (.string Y) ∧ fr.tmps[11]? = some (.slice (some ⟨b, 0, none⟩) l.length c) ∧ fr.tmps[12]? = some (.int .i64 l.length) ∧ fr.tmps[13]? = some (.int .i64 i) ∧ fr.tmps[18]? = some (.slice (some ⟨wr.heap.size, 0, none⟩) t.size c2) ∧ fr.tmps[19]? = some (.int .i64 t.size) ∧ fr.tmps[20]? = some (.int .i64 j) ∧ Y = readN q k X t j ∧ Below W0.heap.size W0 wr2) (t.size) ?_ ?_
 · (
 exact ⟨0, X, _, rfl, Nat.zero_le _, hf, s0, s1, s11, s12, s13, s18, s19, s20, rfl, Below.refl _ _⟩)
 · (
 clear hf s0 s1 s8 s11 s12 s13 s14 s15 s16 s17 s18 s19 s20
 rintro g2 fr wr2 ⟨j, Y, c2, hk2, hj, hf, s0, s1, s11, s12, s13, s18, s19, s20, hY, hb2⟩
 have HK2 := Lib.hid hk2; have HY := Lib.hid hY; clear hk2 hY
 refine wp_seq_k (fun K9 hK9 => ?_)
 refine Fact.region ?_
 refine Fact.p rfl fun K hK => ?_
 go_simp
 refine hK.out _ _ ?_; clear hK K
 refine Fact.nil ?_
 refine Fact.q hf (by simp only [Fact.G]) rfl fun fr1 hf1 hT => ?_
 have hKp : _ ∧ _ ∧ _ ∧ _ ∧ _ ∧ _ ∧ _ ∧ _ ∧ _ := ⟨hT 0, hT 1, hT 11, hT 12, hT 13, hT 18, hT 19, hT 20, hT 21⟩
 simp only [Fact.G, Nat.reduceEqDiff, Nat.reduceLT, hf.size, reduceIte, s0, s1, s11, s12, s13, s18, s19, s20] at hKp
 clear hT hf s0 s1 s11 s12 s13 s18 s19 s20
 obtain ⟨s0, s1, s11, s12, s13, s18, s19, s20, s21⟩ := hKp
 have hf := hf1; clear hf1
 refine Fact.nx (hK9 _ _ ?_)
 refine wp_seq_k (fun K10 hK10 => ?_)
 refine Fact.cond_s s21 (fun hq2 => ?_) (fun hq2 => ?_)
 · (
 have hjt : j < t.size := by have h9 := of_decide_eq_true hq2; omega
 have cj := cell_later hb2 (hrow j hjt)
 refine wp_skip ?_
 refine Fact.nx (hK10 _ _ ?_)
 refine wp_seq_k (fun K11 hK11 => ?_)
 refine wp_block ?_
 refine wp_seq_k (fun K12 hK12 => ?_)
 refine Fact.region ?_
 have b22 := hf.l 22 rfl
 have b23 := hf.l 23 rfl
 refine Fact.p rfl fun K hK => ?_
 go_simp
 try rw [if_pos (by omega)]
 refine hK.out _ _ ?_; clear hK K
 refine Fact.p rfl fun K hK => ?_
 go_simp
 refine hK.out _ _ ?_; clear hK K
 refine Fact.p rfl fun K hK => ?_
 go_simp
 refine hK.out _ _ ?_; clear hK K
 refine Fact.nil ?_
 refine Fact.q hf (by simp only [Fact.G]) rfl fun fr1 hf1 hT => ?_
 have hKp : _ ∧ _ ∧ _ ∧ _ ∧ _ ∧ _ ∧ _ ∧ _ ∧ _ ∧ _ ∧ _ ∧ _ := ⟨hT 0, hT 1, hT 10, hT 11, hT 12, hT 13, hT 18, hT 19, hT 20, hT 21, hT 22, hT 23⟩
 simp only [Fact.G, Nat.reduceEqDiff, Nat.reduceLT, hf.size, reduceIte, s0, s1, s11, s12, s13, s18, s19, s20, s21] at hKp
 clear hT hf s0 s1 s11 s12 s13 s18 s19 s20 s21 b22 b23
 obtain ⟨s0, s1, s10, s11, s12, s13, s18, s19, s20, s21, s22, s23⟩ := hKp
 have hf := hf1; clear hf1
 refine Fact.nx (hK12 _ _ ?_)
 refine Fact.region ?_
 have b24 := hf.l 24 rfl
 have b25 := hf.l 25 rfl
 have b26 := hf.l 26 rfl
 have b27 := hf.l 27 rfl
 refine Fact.p rfl fun K hK => ?_
 go_simp
 refine hK.out _ _ ?_; clear hK K
 refine Fact.p rfl fun K hK => ?_
 go_simp
 refine hK.out _ _ ?_; clear hK K
 refine Fact.p rfl fun K hK => ?_
 go_simp
 refine hK.out _ _ ?_; clear hK K
 refine Fact.p rfl fun K hK => ?_
 go_simp
 go_at_call 16; refine (step16 wr2 g q k (((hA.later hb).later hb0).later hb2) Y (at_ t j)).mono ?_; rintro e w3 ⟨rfl, hb3⟩
 dsimp only
 refine hK.out _ _ ?_; clear hK K
 refine Fact.p rfl fun K hK => ?_
 go_simp
 refine hK.out _ _ ?_; clear hK K
 refine Fact.nil ?_
 refine Fact.q hf (by simp only [Fact.G]) rfl fun fr1 hf1 hT => ?_
 have hKp : _ ∧ _ ∧ _ ∧ _ ∧ _ ∧ _ ∧ _ ∧ _ ∧ _ ∧ _ ∧ _ ∧ _ ∧ _ ∧ _ ∧ _ ∧ _ := ⟨hT 0, hT 1, hT 10, hT 11, hT 12, hT 13, hT 18, hT 19, hT 20, hT 21, hT 22, hT 23, hT 24, hT 25, hT 26, hT 27⟩
 simp only [Fact.G, Nat.reduceEqDiff, Nat.reduceLT, hf.size, reduceIte, s0, s10, s11, s12, s13, s18, s19, s20, s21, s22, s23] at hKp
 clear hT hf s0 s1 s10 s11 s12 s13 s18 s19 s20 s21 s22 s23 b24 b25 b26 b27
 obtain ⟨s0, s1, s10, s11, s12, s13, s18, s19, s20, s21, s22, s23, s24, s25, s26, s27⟩ := hKp
 have hf := hf1; clear hf1
 refine Fact.block_normal ?_
 refine Fact.nx (hK11 _ _ ?_)
 refine Fact.region ?_
 have b28 := hf.l 28 rfl
 refine Fact.p rfl fun K hK => ?_
 go_simp
 try simp (disch := omega) only [Fact.wrap_i64, Fact.wrap_u8, Fact.wrap_u32, Fact.wrap_u64]
 refine hK.out _ _ ?_; clear hK K
 refine Fact.p rfl fun K hK => ?_
 go_simp
 refine hK.out _ _ ?_; clear hK K
 refine Fact.nil ?_
 refine Fact.q hf (by simp only [Fact.G]) rfl fun fr1 hf1 hT => ?_
 have hKp : _ ∧ _ ∧ _ ∧ _ ∧ _ ∧ _ ∧ _ ∧ _ ∧ _ ∧ _ ∧ _ ∧ _ ∧ _ ∧ _ ∧ _ ∧ _ ∧ _ := ⟨hT 0, hT 1, hT 10, hT 11, hT 12, hT 13, hT 18, hT 19, hT 20, hT 21, hT 22, hT 23, hT 24, hT 25, hT 26, hT 27, hT 28⟩
 simp only [Fact.G, Nat.reduceEqDiff, Nat.reduceLT, hf.size, reduceIte, s0, s1, s10, s11, s12, s13, s18, s19, s21, s22, s23, s24, s25, s26, s27] at hKp
 clear hT hf s0 s1 s10 s11 s12 s13 s18 s19 s20 s21 s22 s23 s24 s25 s26 s27 b28
 obtain ⟨s0, s1, s10, s11, s12, s13, s18, s19, s20, s21, s22, s23, s24, s25, s26, s27, s28⟩ := hKp
 have hf := hf1; clear hf1
 refine Fact.then_normal ?_
 exact ⟨_, by have := HK2.out; omega, j + 1, _, _, rfl, by omega, hf, s0, s1, s11, s12, s13, s18, s19, s20, by rw [readN, HY.out], hb2.trans (hb3.mono hb2.size)⟩)
 · (
 have hje : j = t.size := by have h9 := of_decide_eq_false hq2; omega
 refine wp_exit ?_
 refine Fact.then_exit ?_
 refine Fact.then_exit ?_
 refine Fact.block_exit ?_
 refine Fact.block_normal ?_
 refine Fact.nx (hK6 _ _ ?_)
 refine Fact.region ?_
 have b29 := hf.l 29 rfl
 refine Fact.p rfl fun K hK => ?_
 go_simp
 try simp (disch := omega) only [Fact.wrap_i64, Fact.wrap_u8, Fact.wrap_u32, Fact.wrap_u64]
 refine hK.out _ _ ?_; clear hK K
 refine Fact.p rfl fun K hK => ?_
 go_simp
 refine hK.out _ _ ?_; clear hK K
 refine Fact.nil ?_
 refine Fact.q hf (by simp only [Fact.G]) rfl fun fr1 hf1 hT => ?_
 have hKp : _ ∧ _ ∧ _ ∧ _ ∧ _ ∧ _ ∧ _ ∧ _ ∧ _ ∧ _ := ⟨hT 0, hT 1, hT 11, hT 12, hT 13, hT 18, hT 19, hT 20, hT 21, hT 29⟩
 simp only [Fact.G, Nat.reduceEqDiff, Nat.reduceLT, hf.size, reduceIte, s0, s1, s11, s12, s18, s19, s20, s21] at hKp
 clear hT hf s0 s1 s11 s12 s13 s18 s19 s20 s21 b29
 obtain ⟨s0, s1, s11, s12, s13, s18, s19, s20, s21, s29⟩ := hKp
 have hf := hf1; clear hf1
 refine Fact.then_normal ?_
 exact ⟨_, by have := HK.out; omega, i + 1, _, rfl, by omega, hf, s0, s1, s11, s12, s13, by rw [HY.out, HX.out, hje, readL_take HT.out]; rfl, (hb.trans (hb0.mono hb.size)).trans (hb2.mono (by have := hb.size; have := hb0.size; omega))⟩)))
 · (
 have hie : i = l.length := by have h9 := of_decide_eq_false hq; omega
 refine wp_exit ?_
 refine Fact.then_exit ?_
 refine Fact.then_exit ?_
 refine Fact.block_exit ?_
 refine Fact.nx (hK2 _ _ ?_)
 refine wp_seq_k (fun K13 hK13 => ?_)
 refine Fact.region ?_
 have b30 := hf.l 30 rfl
 refine Fact.p rfl fun K hK => ?_
 go_simp
 refine hK.out _ _ ?_; clear hK K
 refine Fact.p rfl fun K hK => ?_
 go_simp
 refine hK.out _ _ ?_; clear hK K
 refine Fact.nil ?_
 refine Fact.q hf (by simp only [Fact.G]) rfl fun fr1 hf1 hT => ?_
 have hKp := hT 6
 simp only [Fact.G, Nat.reduceEqDiff, Nat.reduceLT, hf.size, reduceIte] at hKp
 clear hT hf s0 s1 s11 s12 s13 s14 b30
 have s6 := hKp; clear hKp
 have hf := hf1; clear hf1
 refine Fact.nx (hK13 _ _ ?_)
 refine wp_ret ?_
 subst hie
 have hx := HX.out
 rw [List.take_length] at hx
 subst hx
 exact Fact.ret1 rfl hf s6 ⟨rfl, hb⟩))
end Lv
end Go.Proofs.Ytfgfichkcckhiaa
