/- Lev: rows of a builder: Start, Step. -/
import Derived.Test.YtfgfichkcckhiaaLSmall
import Derived.Test.YtfgfichkcckhiaaLBuild
namespace Go.Proofs.Ytfgfichkcckhiaa
open Go.RowKit
set_option linter.unusedSimpArgs false
set_option linter.unusedVariables false
set_option linter.unnecessarySimpa false
namespace Lv
theorem step35b (w : World) (i last F : Nat) (gp gs ga gb : Nat) (sv q : ByteArray) (b k : Nat) (hF : F = num q sv b i last) (hi : i ≤ q.size) (hl : last < 1000) (h1 : w.cell? ⟨gs, 0, none⟩ = some (.string sv)) (h2 : w.cell? ⟨gb, 0, none⟩ = some (.int .u8 b)) (h3 : w.cell? ⟨ga, 0, none⟩ = some (.pointer (some ⟨gp, 0, none⟩))) (hA : At w gp q k) (hs : sv.size = q.size + 1) : Calls Try.prog 35 #[.int .i64 (i : Int), .int .i64 last, .pointer (some ⟨gs, 0, none⟩), .pointer (some ⟨ga, 0, none⟩), .pointer (some ⟨gb, 0, none⟩)] w fun e w1 => e = .returned (.int .i64 (F : Int)) ∧ Below w.heap.size w w1 := by
  subst hF
  cases i with
  | zero => exact step35z w last gp gs ga gb sv q b k hl h1 h2 h3 hA hs
  | succ m =>
    have e1 : ((m + 1 : Nat) : Int) = (m : Int) + 1 := by omega
    rw [e1]
    exact step35s w m last gp gs ga gb sv q b k hl h1 h2 h3 hA hs (by omega)
theorem start28b (w : World) (i last F : Nat) (hF : F = i) : Calls Try.prog 28 #[.int .i64 (i : Int), .int .i64 last] w fun e w1 => e = .returned (.int .i64 (F : Int)) ∧ Below w.heap.size w w1 := by
  subst hF
  refine (start28 _ _ w).mono ?_
  rintro e w1 ⟨rfl, rfl⟩
  exact ⟨rfl, Below.refl _ _⟩
theorem byteCells_snoc (l : List UInt8) (x : UInt8) : Lib.byteCells l ++ [.int .u8 (x.toNat : Int)] = Lib.byteCells (l ++ [x]) := by simp [Lib.byteCells]
theorem byteCells_length (l : List UInt8) : (Lib.byteCells l).length = l.length := by simp [Lib.byteCells]

set_option maxHeartbeats 4000000 in
set_option maxRecDepth 100000 in
theorem row28 (w : World) (gp : Nat) (q : ByteArray) (k : Nat) (hA : At w gp q k) : Calls Try.prog 27 #[.pointer (some ⟨gp, 0, none⟩), .func (.func 28) #[] #[]] w fun e w1 => e = .returned (.string (startS q k)) ∧ Below w.heap.size w w1 := by
 refine calls_of_wp Try.func27 rfl ?_
 refine Fact.enter (n := 32) (by kernel_rfl) (fun fr hf hT => ?_)
 have s0 := hT 0 _ rfl
 have s1 := hT 1 _ rfl
 clear hT
 have h4 := hA.c0
 have hs0 := hA.hq
 refine wp_seq_k (fun K1 hK1 => ?_)
 refine Fact.region ?_
 refine Fact.p rfl fun K hK => ?_
 go_simp
 refine hK.out _ _ ?_; clear hK K
 refine Fact.nil ?_
 refine Fact.q hf (by simp only [Fact.G]) rfl fun fr1 hf1 hT => ?_
 have hKp : _ ∧ _ ∧ _ := ⟨hT 0, hT 1, hT 4⟩
 simp only [Fact.G, Nat.reduceEqDiff, Nat.reduceLT, hf.size, reduceIte, s0, s1] at hKp
 clear hT hf s0 s1
 obtain ⟨s0, s1, s4⟩ := hKp
 have hf := hf1; clear hf1
 refine Fact.nx (hK1 _ _ ?_)
 refine wp_seq_k (fun K2 hK2 => ?_)
 refine Fact.region ?_
 refine Fact.p rfl fun K hK => ?_
 go_simp
 refine hK.out _ _ ?_; clear hK K
 refine Fact.nil ?_
 refine Fact.q hf (by simp only [Fact.G]) rfl fun fr1 hf1 hT => ?_
 have hKp : _ ∧ _ ∧ _ ∧ _ := ⟨hT 0, hT 1, hT 4, hT 5⟩
 simp only [Fact.G, Nat.reduceEqDiff, Nat.reduceLT, hf.size, reduceIte, s0, s1, s4] at hKp
 clear hT hf s0 s1 s4
 obtain ⟨s0, s1, s4, s5⟩ := hKp
 have hf := hf1; clear hf1
 refine Fact.nx (hK2 _ _ ?_)
 refine wp_seq_k (fun K3 hK3 => ?_)
 refine Fact.region ?_
 refine Fact.p rfl fun K hK => ?_
 go_simp
 refine hK.out _ _ ?_; clear hK K
 refine Fact.nil ?_
 refine Fact.q hf (by simp only [Fact.G]) rfl fun fr1 hf1 hT => ?_
 have hKp : _ ∧ _ ∧ _ ∧ _ ∧ _ := ⟨hT 0, hT 1, hT 4, hT 5, hT 6⟩
 simp only [Fact.G, Nat.reduceEqDiff, Nat.reduceLT, hf.size, reduceIte, s0, s1, s4, s5] at hKp
 clear hT hf s0 s1 s4 s5
 obtain ⟨s0, s1, s4, s5, s6⟩ := hKp
 have hf := hf1; clear hf1
 refine Fact.nx (hK3 _ _ ?_)
 have hb0 : Below w.heap.size w (w.alloc (.cells #[.pointer none, .slice none 0 0] 78)) := (Below.refl _ _).alloc (Nat.le_refl _) _
 have hbu := fresh w
 have hA1 := hA.later hb0
 replace h4 := hA1.c0
 refine wp_seq_k (fun K4 hK4 => ?_)
 refine wp_seq_k (fun K5 hK5 => ?_)
 refine Fact.region ?_
 have b8 := hf.l 8 rfl
 have b9 := hf.l 9 rfl
 have b10 := hf.l 10 rfl
 have b11 := hf.l 11 rfl
 have b12 := hf.l 12 rfl
 refine Fact.p rfl fun K hK => ?_
 go_simp
 refine hK.out _ _ ?_; clear hK K
 refine Fact.p rfl fun K hK => ?_
 go_simp
 refine hK.out _ _ ?_; clear hK K
 refine Fact.p rfl fun K hK => ?_
 go_simp
 refine hK.out _ _ ?_; clear hK K
 refine Fact.p rfl fun K hK => ?_
 go_simp
 refine hK.out _ _ ?_; clear hK K
 refine Fact.p rfl fun K hK => ?_
 go_simp
 refine hK.out _ _ ?_; clear hK K
 refine Fact.p rfl fun K hK => ?_
 go_simp
 try simp (disch := omega) only [Fact.wrap_i64, Fact.wrap_u8, Fact.wrap_u32, Fact.wrap_u64]
 refine hK.out _ _ ?_; clear hK K
 refine Fact.p rfl fun K hK => ?_
 go_simp
 refine hK.out _ _ ?_; clear hK K
 refine Fact.nil ?_
 refine Fact.q hf (by simp only [Fact.G]) rfl fun fr1 hf1 hT => ?_
 have hKp : _ ∧ _ ∧ _ ∧ _ ∧ _ ∧ _ ∧ _ := ⟨hT 0, hT 1, hT 4, hT 5, hT 6, hT 13, hT 14⟩
 simp only [Fact.G, Nat.reduceEqDiff, Nat.reduceLT, hf.size, reduceIte, s0, s1, s4, s5, s6] at hKp
 clear hT hf s0 s1 s4 s5 s6 b8 b9 b10 b11 b12
 obtain ⟨s0, s1, s4, s5, s6, s13, s14⟩ := hKp
 have hf := hf1; clear hf1
 refine Fact.nx (hK5 _ _ ?_)
 refine wp_block ?_
 refine wp_loop_ghost (fun gk fr wr => ∃ i : Nat, gk = q.size + 1 - i ∧ i ≤ q.size + 1 ∧ Fact.Fr 32 fr ∧ fr.tmps[0]? = some (.pointer (some ⟨gp, 0, none⟩)) ∧ fr.tmps[1]? = some (.func (.func 28) #[] #[]) ∧ fr.tmps[5]? = some (.pointer (some ⟨w.heap.size, 0, none⟩)) ∧ fr.tmps[6]? = some (.int .i64 (lastOf idx k i)) ∧ fr.tmps[13]? = some (.int .i64 ((q.size : Int) + 1)) ∧ fr.tmps[14]? = some (.int .i64 i) ∧ Lib.IsBuilder 78 5 w.heap.size w.heap.size (Lib.byteCells (row idx k i)) wr ∧ Below w.heap.size w wr) (q.size + 1) ?_ ?_
 · (
 exact ⟨0, rfl, Nat.zero_le _, hf, s0, s1, s5, s6, s13, s14, hbu, hb0⟩)
 · (
 clear hf s0 s1 s4 s5 s6 s13 s14
 rintro gk fr wr ⟨i, hk, hi, hf, s0, s1, s5, s6, s13, s14, hbu, hb⟩
 have HK := Lib.hid hk; clear hk
 have hbs := hb.size
 have hA2 := hA.later hb
 have hll := lastOf_le idx k i
 have hk3 := hA.hk
 refine wp_seq_k (fun K6 hK6 => ?_)
 refine Fact.region ?_
 refine Fact.p rfl fun K hK => ?_
 go_simp
 refine hK.out _ _ ?_; clear hK K
 refine Fact.nil ?_
 refine Fact.q hf (by simp only [Fact.G]) rfl fun fr1 hf1 hT => ?_
 have hKp : _ ∧ _ ∧ _ ∧ _ ∧ _ ∧ _ ∧ _ := ⟨hT 0, hT 1, hT 5, hT 6, hT 13, hT 14, hT 15⟩
 simp only [Fact.G, Nat.reduceEqDiff, Nat.reduceLT, hf.size, reduceIte, s0, s1, s5, s6, s13, s14] at hKp
 clear hT hf s0 s1 s5 s6 s13 s14
 obtain ⟨s0, s1, s5, s6, s13, s14, s15⟩ := hKp
 have hf := hf1; clear hf1
 refine Fact.nx (hK6 _ _ ?_)
 refine wp_seq_k (fun K7 hK7 => ?_)
 refine Fact.cond_s s15 (fun hq => ?_) (fun hq => ?_)
 · (
 have hlt : i < q.size + 1 := by have h9 := of_decide_eq_true hq; omega
 obtain ⟨F, hF⟩ : ∃ F, F = idx i (lastOf idx k i) := ⟨_, rfl⟩
 have hc := cel_last idx k i
 rw [← hF] at hc
 have HF := Lib.hid hF; clear hF
 obtain ⟨C, hC⟩ : ∃ C, C = cel idx k i := ⟨_, rfl⟩
 rw [← hC] at hc
 have hC9 : C ≤ k + 1 := by omega
 have HC := Lib.hid hC; have HCC := Lib.hid hc; clear hC hc
 have e9 : min (F : Int) ((k : Int) + 1) = (C : Int) := by have := HCC.out; omega
 have e5 : IntKind.u8.wrap (C : Int) = (C : Int) := Fact.wrap_u8 (by omega) (by omega)
 refine wp_skip ?_
 refine Fact.nx (hK7 _ _ ?_)
 refine wp_seq_k (fun K8 hK8 => ?_)
 refine wp_block ?_
 refine wp_seq_k (fun K9 hK9 => ?_)
 refine Fact.region ?_
 have b16 := hf.l 16 rfl
 refine Fact.p rfl fun K hK => ?_
 go_simp
 refine hK.out _ _ ?_; clear hK K
 refine Fact.p rfl fun K hK => ?_
 go_simp
 refine hK.out _ _ ?_; clear hK K
 refine Fact.nil ?_
 refine Fact.q hf (by simp only [Fact.G]) rfl fun fr1 hf1 hT => ?_
 have hKp : _ ∧ _ ∧ _ ∧ _ ∧ _ ∧ _ ∧ _ ∧ _ ∧ _ := ⟨hT 0, hT 1, hT 5, hT 6, hT 7, hT 13, hT 14, hT 15, hT 16⟩
 simp only [Fact.G, Nat.reduceEqDiff, Nat.reduceLT, hf.size, reduceIte, s0, s1, s5, s6, s13, s14, s15] at hKp
 clear hT hf s0 s1 s5 s6 s13 s14 s15 b16
 obtain ⟨s0, s1, s5, s6, s7, s13, s14, s15, s16⟩ := hKp
 have hf := hf1; clear hf1
 refine Fact.nx (hK9 _ _ ?_)
 refine wp_seq_k (fun K10 hK10 => ?_)
 refine Stab.todo_begin (n := 32) (Stab.OkOps.of (by kernel_rfl)) (fun hok => ?_)
 refine Stab.mvO (k := 0) s1 hf.size hok.out rfl rfl rfl (.inl rfl) (by kernel_rfl) ?_
 refine Stab.mvO (k := 1) s7 hf.size hok.out rfl rfl rfl (.inl rfl) (by kernel_rfl) ?_
 refine Stab.mvP (k := 2) (j := 10) s6 hf.size hok.out rfl rfl rfl (.inl rfl) [] (by kernel_rfl) (by kernel_rfl) ?_
 apply Stab.t 3 _ hf.size hok.out rfl
 · (
 intro fr1 w1 hh hd hk K hK
 refine Stab.op_plain (o := _) rfl rfl ?_
 have s17 := Stab.u 0 2 hd hk rfl [] (by kernel_rfl) rfl rfl rfl
 have s18 := Stab.u 1 1 hd hk rfl [] (by kernel_rfl) rfl rfl rfl
 have s19 := Stab.u 2 0 hd hk rfl [] (by kernel_rfl) rfl rfl rfl
 clear hd
 have hbb := hb.trans (hh.ext.mono hbs)
 go_simp
 go_at_call 28; refine (start28b w1 i (lastOf idx k i) F HF.out).mono ?_; rintro e w2 ⟨rfl, hb⟩
 exact hK.out _ rfl _ _ hb rfl)
 refine Stab.mvO (k := 4) s0 hf.size hok.out rfl rfl rfl (.inl rfl) (by kernel_rfl) ?_
 apply Stab.t 5 _ hf.size hok.out rfl
 · (
 intro fr1 w1 hh hd hk K hK
 refine Stab.op_plain (o := _) rfl rfl ?_
 have s21 := Stab.u 4 0 hd hk rfl [] (by kernel_rfl) rfl rfl rfl
 clear hd
 go_simp
 exact hK.out _ rfl _ _ (Below.refl _ _) rfl)
 apply Stab.t 6 _ hf.size hok.out rfl
 · (
 intro fr1 w1 hh hd hk K hK
 refine Stab.op_plain (o := _) rfl rfl ?_
 have s22 := Stab.u 5 0 hd hk rfl [] (by kernel_rfl) rfl rfl rfl
 clear hd
 go_simp
 exact hK.out _ rfl _ _ (Below.refl _ _) rfl)
 apply Stab.t 7 _ hf.size hok.out rfl
 · (
 intro fr1 w1 hh hd hk K hK
 refine Stab.op_plain (o := _) rfl rfl ?_
 have s23 := Stab.u 6 0 hd hk rfl [] (by kernel_rfl) rfl rfl rfl
 clear hd
 have c7 := (hA2.later hh.ext).c1
 go_simp
 exact hK.out _ rfl _ _ (Below.refl _ _) rfl)
 apply Stab.t 8 _ hf.size hok.out rfl
 · (
 intro fr1 w1 hh hd hk K hK
 refine Stab.op_plain (o := _) rfl rfl ?_
 have s24 := Stab.u 7 0 hd hk rfl [] (by kernel_rfl) rfl rfl rfl
 clear hd
 go_simp
 try simp (disch := omega) only [Fact.wrap_i64, Fact.wrap_u8, Fact.wrap_u32, Fact.wrap_u64]
 exact hK.out _ rfl _ _ (Below.refl _ _) rfl)
 apply Stab.t 9 _ hf.size hok.out rfl
 · (
 intro fr1 w1 hh hd hk K hK
 refine Stab.op_plain (o := _) rfl rfl ?_
 have s20 := Stab.u 3 5 hd hk rfl [] (by kernel_rfl) rfl rfl rfl
 have s25 := Stab.u 8 0 hd hk rfl [] (by kernel_rfl) rfl rfl rfl
 clear hd
 go_simp
 exact hK.out _ rfl _ _ (Below.refl _ _) rfl)
 refine Stab.mvN (k := 10) (j := 9) (m := 0) hf.size hok.out rfl rfl rfl (.inr rfl) rfl [] (by kernel_rfl) rfl rfl rfl ?_
 refine Stab.todo_facts (n := 32) (by kernel_rfl) hf.size hok.out rfl (fun fr1 w1 hh hg => ?_)
 replace s0 := Stab.o hh (by kernel_rfl) s0
 replace s1 := Stab.o hh (by kernel_rfl) s1
 replace s5 := Stab.o hh (by kernel_rfl) s5
 clear s6; have s6 := Stab.e 10 0 hg rfl rfl rfl rfl
 replace s7 := Stab.o hh (by kernel_rfl) s7
 replace s13 := Stab.o hh (by kernel_rfl) s13
 replace s14 := Stab.o hh (by kernel_rfl) s14
 replace s15 := Stab.o hh (by kernel_rfl) s15
 replace s16 := Stab.o hh (by kernel_rfl) s16
 have s17 := Stab.e 0 10 hg rfl rfl rfl rfl
 have s18 := Stab.e 1 9 hg rfl rfl rfl rfl
 have s19 := Stab.e 2 8 hg rfl rfl rfl rfl
 have s20 := Stab.e 3 7 hg rfl rfl rfl rfl
 have s21 := Stab.e 4 6 hg rfl rfl rfl rfl
 have s22 := Stab.e 5 5 hg rfl rfl rfl rfl
 have s23 := Stab.e 6 4 hg rfl rfl rfl rfl
 have s24 := Stab.e 7 3 hg rfl rfl rfl rfl
 have s25 := Stab.e 8 2 hg rfl rfl rfl rfl
 have s26 := Stab.e 9 1 hg rfl rfl rfl rfl
 have hf1 : Fact.Fr 32 fr1 := ⟨hh.size.trans hf.size, hh.defers.trans hf.defers⟩
 have hx := hh.ext
 clear hg hh hf hok
 have hf := hf1; clear hf1
 refine Fact.nx (hK10 _ _ ?_)
 have hb1 := hb.trans (hx.mono hbs)
 have hbu1 := build_later hbu hx
 refine Fact.region ?_
 have b27 := hf.l 27 rfl
 have b28 := hf.l 28 rfl
 refine Fact.p rfl fun K hK => ?_
 go_simp
 refine hK.out _ _ ?_; clear hK K
 refine Fact.p rfl fun K hK => ?_
 go_simp
 refine hK.out _ _ ?_; clear hK K
 refine Fact.p rfl fun K hK => ?_
 go_simp
 go_at_call 49; refine (write_any w.heap.size w.heap.size _ (C : Int) w1 hbu1 (by rw [byteCells_length, row_length]; omega) hb1.size).mono ?_; rintro e w2 ⟨rfl, hbu2, hb2⟩
 dsimp only
 refine hK.out _ _ ?_; clear hK K
 refine Fact.nil ?_
 refine Fact.q hf (by simp only [Fact.G]) rfl fun fr1 hf1 hT => ?_
 have hKp : _ ∧ _ ∧ _ ∧ _ ∧ _ ∧ _ ∧ _ ∧ _ ∧ _ ∧ _ ∧ _ ∧ _ ∧ _ ∧ _ ∧ _ ∧ _ ∧ _ ∧ _ ∧ _ ∧ _ ∧ _ := ⟨hT 0, hT 1, hT 5, hT 6, hT 7, hT 13, hT 14, hT 15, hT 16, hT 17, hT 18, hT 19, hT 20, hT 21, hT 22, hT 23, hT 24, hT 25, hT 26, hT 27, hT 28⟩
 simp only [Fact.G, Nat.reduceEqDiff, Nat.reduceLT, hf.size, reduceIte, s0, s1, s5, s6, s7, s13, s14, s15, s16, s17, s18, s19, s20, s21, s22, s23, s24, s25, s26] at hKp
 clear hT hf s0 s1 s5 s6 s7 s13 s14 s15 s16 s17 s18 s19 s20 s21 s22 s23 s24 s25 s26 b27 b28
 obtain ⟨s0, s1, s5, s6, s7, s13, s14, s15, s16, s17, s18, s19, s20, s21, s22, s23, s24, s25, s26, s27, s28⟩ := hKp
 have hf := hf1; clear hf1
 refine Fact.block_normal ?_
 refine Fact.nx (hK8 _ _ ?_)
 refine Fact.region ?_
 have b30 := hf.l 30 rfl
 refine Fact.p rfl fun K hK => ?_
 go_simp
 try simp (disch := omega) only [Fact.wrap_i64, Fact.wrap_u8, Fact.wrap_u32, Fact.wrap_u64]
 refine hK.out _ _ ?_; clear hK K
 refine Fact.p rfl fun K hK => ?_
 go_simp
 refine hK.out _ _ ?_; clear hK K
 refine Fact.nil ?_
 refine Fact.q hf (by simp only [Fact.G]) rfl fun fr1 hf1 hT => ?_
 have hKp : _ ∧ _ ∧ _ ∧ _ ∧ _ ∧ _ ∧ _ ∧ _ ∧ _ ∧ _ ∧ _ ∧ _ ∧ _ ∧ _ ∧ _ ∧ _ ∧ _ ∧ _ ∧ _ ∧ _ ∧ _ ∧ _ := ⟨hT 0, hT 1, hT 5, hT 6, hT 7, hT 13, hT 14, hT 15, hT 16, hT 17, hT 18, hT 19, hT 20, hT 21, hT 22, hT 23, hT 24, hT 25, hT 26, hT 27, hT 28, hT 30⟩
 simp only [Fact.G, Nat.reduceEqDiff, Nat.reduceLT, hf.size, reduceIte, s0, s1, s5, s6, s7, s13, s15, s16, s17, s18, s19, s20, s21, s22, s23, s24, s25, s26, s27, s28] at hKp
 clear hT hf s0 s1 s5 s6 s7 s13 s14 s15 s16 s17 s18 s19 s20 s21 s22 s23 s24 s25 s26 s27 s28 b30
 obtain ⟨s0, s1, s5, s6, s7, s13, s14, s15, s16, s17, s18, s19, s20, s21, s22, s23, s24, s25, s26, s27, s28, s30⟩ := hKp
 have hf := hf1; clear hf1
 refine Fact.then_normal ?_
 have e8 : (C : Int) = ((UInt8.ofNat C).toNat : Int) := by simp only [UInt8.toNat_ofNat']; omega
 rw [e8, byteCells_snoc, HC.out, ← row_succ] at hbu2
 rw [HC.out] at s6
 exact ⟨_, by have := HK.out; omega, i + 1, rfl, by omega, hf, s0, s1, s5, s6, s13, by rw [s14]; rfl, .inr hbu2, hb1.trans hb2⟩)
 · (
 have hie : i = q.size + 1 := by have h9 := of_decide_eq_false hq; omega
 refine wp_exit ?_
 refine Fact.then_exit ?_
 refine Fact.then_exit ?_
 refine Fact.block_exit ?_
 refine Fact.nx (hK4 _ _ ?_)
 refine wp_seq_k (fun K11 hK11 => ?_)
 refine Fact.region ?_
 have b31 := hf.l 31 rfl
 refine Fact.p rfl fun K hK => ?_
 go_simp
 go_at_call 48; refine (Try.Builder_String_any w.heap.size w.heap.size _ wr hbu hbs).mono ?_; rintro e w9 ⟨rfl, hb9⟩
 dsimp only
 refine hK.out _ _ ?_; clear hK K
 refine Fact.p rfl fun K hK => ?_
 go_simp
 refine hK.out _ _ ?_; clear hK K
 refine Fact.nil ?_
 refine Fact.q hf (by simp only [Fact.G]) rfl fun fr1 hf1 hT => ?_
 have hKp := hT 4
 simp only [Fact.G, Nat.reduceEqDiff, Nat.reduceLT, hf.size, reduceIte] at hKp
 clear hT hf s0 s1 s5 s6 s13 s14 s15 b31
 have s4 := hKp; clear hKp
 have hf := hf1; clear hf1
 refine Fact.nx (hK11 _ _ ?_)
 refine wp_ret ?_
 subst hie
 exact Fact.ret1 rfl hf s4 ⟨rfl, hb.trans hb9⟩))
set_option maxHeartbeats 4000000 in
set_option maxRecDepth 100000 in
theorem row35 (w : World) (gp gs ga gb : Nat) (sv q : ByteArray) (b k : Nat) (h1 : w.cell? ⟨gs, 0, none⟩ = some (.string sv)) (h2 : w.cell? ⟨gb, 0, none⟩ = some (.int .u8 b)) (h3 : w.cell? ⟨ga, 0, none⟩ = some (.pointer (some ⟨gp, 0, none⟩))) (hA : At w gp q k) (hs : sv.size = q.size + 1) : Calls Try.prog 27 #[.pointer (some ⟨gp, 0, none⟩), .func (.func 35) #[] #[.pointer (some ⟨gs, 0, none⟩), .pointer (some ⟨ga, 0, none⟩), .pointer (some ⟨gb, 0, none⟩)]] w fun e w1 => e = .returned (.string (bs (row (num q sv b) k (q.size + 1)))) ∧ Below w.heap.size w w1 := by
 refine calls_of_wp Try.func27 rfl ?_
 refine Fact.enter (n := 32) (by kernel_rfl) (fun fr hf hT => ?_)
 have s0 := hT 0 _ rfl
 have s1 := hT 1 _ rfl
 clear hT
 have h4 := hA.c0
 have hs0 := hA.hq
 refine wp_seq_k (fun K1 hK1 => ?_)
 refine Fact.region ?_
 refine Fact.p rfl fun K hK => ?_
 go_simp
 refine hK.out _ _ ?_; clear hK K
 refine Fact.nil ?_
 refine Fact.q hf (by simp only [Fact.G]) rfl fun fr1 hf1 hT => ?_
 have hKp : _ ∧ _ ∧ _ := ⟨hT 0, hT 1, hT 4⟩
 simp only [Fact.G, Nat.reduceEqDiff, Nat.reduceLT, hf.size, reduceIte, s0, s1] at hKp
 clear hT hf s0 s1
 obtain ⟨s0, s1, s4⟩ := hKp
 have hf := hf1; clear hf1
 refine Fact.nx (hK1 _ _ ?_)
 refine wp_seq_k (fun K2 hK2 => ?_)
 refine Fact.region ?_
 refine Fact.p rfl fun K hK => ?_
 go_simp
 refine hK.out _ _ ?_; clear hK K
 refine Fact.nil ?_
 refine Fact.q hf (by simp only [Fact.G]) rfl fun fr1 hf1 hT => ?_
 have hKp : _ ∧ _ ∧ _ ∧ _ := ⟨hT 0, hT 1, hT 4, hT 5⟩
 simp only [Fact.G, Nat.reduceEqDiff, Nat.reduceLT, hf.size, reduceIte, s0, s1, s4] at hKp
 clear hT hf s0 s1 s4
 obtain ⟨s0, s1, s4, s5⟩ := hKp
 have hf := hf1; clear hf1
 refine Fact.nx (hK2 _ _ ?_)
 refine wp_seq_k (fun K3 hK3 => ?_)
 refine Fact.region ?_
 refine Fact.p rfl fun K hK => ?_
 go_simp
 refine hK.out _ _ ?_; clear hK K
 refine Fact.nil ?_
 refine Fact.q hf (by simp only [Fact.G]) rfl fun fr1 hf1 hT => ?_
 have hKp : _ ∧ _ ∧ _ ∧ _ ∧ _ := ⟨hT 0, hT 1, hT 4, hT 5, hT 6⟩
 simp only [Fact.G, Nat.reduceEqDiff, Nat.reduceLT, hf.size, reduceIte, s0, s1, s4, s5] at hKp
 clear hT hf s0 s1 s4 s5
 obtain ⟨s0, s1, s4, s5, s6⟩ := hKp
 have hf := hf1; clear hf1
 refine Fact.nx (hK3 _ _ ?_)
 have hb0 : Below w.heap.size w (w.alloc (.cells #[.pointer none, .slice none 0 0] 78)) := (Below.refl _ _).alloc (Nat.le_refl _) _
 have hbu := fresh w
 have hA1 := hA.later hb0
 replace h4 := hA1.c0
 refine wp_seq_k (fun K4 hK4 => ?_)
 refine wp_seq_k (fun K5 hK5 => ?_)
 refine Fact.region ?_
 have b8 := hf.l 8 rfl
 have b9 := hf.l 9 rfl
 have b10 := hf.l 10 rfl
 have b11 := hf.l 11 rfl
 have b12 := hf.l 12 rfl
 refine Fact.p rfl fun K hK => ?_
 go_simp
 refine hK.out _ _ ?_; clear hK K
 refine Fact.p rfl fun K hK => ?_
 go_simp
 refine hK.out _ _ ?_; clear hK K
 refine Fact.p rfl fun K hK => ?_
 go_simp
 refine hK.out _ _ ?_; clear hK K
 refine Fact.p rfl fun K hK => ?_
 go_simp
 refine hK.out _ _ ?_; clear hK K
 refine Fact.p rfl fun K hK => ?_
 go_simp
 refine hK.out _ _ ?_; clear hK K
 refine Fact.p rfl fun K hK => ?_
 go_simp
 try simp (disch := omega) only [Fact.wrap_i64, Fact.wrap_u8, Fact.wrap_u32, Fact.wrap_u64]
 refine hK.out _ _ ?_; clear hK K
 refine Fact.p rfl fun K hK => ?_
 go_simp
 refine hK.out _ _ ?_; clear hK K
 refine Fact.nil ?_
 refine Fact.q hf (by simp only [Fact.G]) rfl fun fr1 hf1 hT => ?_
 have hKp : _ ∧ _ ∧ _ ∧ _ ∧ _ ∧ _ ∧ _ := ⟨hT 0, hT 1, hT 4, hT 5, hT 6, hT 13, hT 14⟩
 simp only [Fact.G, Nat.reduceEqDiff, Nat.reduceLT, hf.size, reduceIte, s0, s1, s4, s5, s6] at hKp
 clear hT hf s0 s1 s4 s5 s6 b8 b9 b10 b11 b12
 obtain ⟨s0, s1, s4, s5, s6, s13, s14⟩ := hKp
 have hf := hf1; clear hf1
 refine Fact.nx (hK5 _ _ ?_)
 refine wp_block ?_
 refine wp_loop_ghost (fun gk fr wr => ∃ i : Nat, gk = q.size + 1 - i ∧ i ≤ q.size + 1 ∧ Fact.Fr 32 fr ∧ fr.tmps[0]? = some (.pointer (some ⟨gp, 0, none⟩)) ∧ fr.tmps[1]? = some (.func (.func 35) #[] #[.pointer (some ⟨gs, 0, none⟩), .pointer (some ⟨ga, 0, none⟩), .pointer (some ⟨gb, 0, none⟩)]) ∧ fr.tmps[5]? = some (.pointer (some ⟨w.heap.size, 0, none⟩)) ∧ fr.tmps[6]? = some (.int .i64 (lastOf (num q sv b) k i)) ∧ fr.tmps[13]? = some (.int .i64 ((q.size : Int) + 1)) ∧ fr.tmps[14]? = some (.int .i64 i) ∧ Lib.IsBuilder 78 5 w.heap.size w.heap.size (Lib.byteCells (row (num q sv b) k i)) wr ∧ Below w.heap.size w wr) (q.size + 1) ?_ ?_
 · (
 exact ⟨0, rfl, Nat.zero_le _, hf, s0, s1, s5, s6, s13, s14, hbu, hb0⟩)
 · (
 clear hf s0 s1 s4 s5 s6 s13 s14
 rintro gk fr wr ⟨i, hk, hi, hf, s0, s1, s5, s6, s13, s14, hbu, hb⟩
 have HK := Lib.hid hk; clear hk
 have hbs := hb.size
 have hA2 := hA.later hb
 have hll := lastOf_le (num q sv b) k i
 have hk3 := hA.hk
 refine wp_seq_k (fun K6 hK6 => ?_)
 refine Fact.region ?_
 refine Fact.p rfl fun K hK => ?_
 go_simp
 refine hK.out _ _ ?_; clear hK K
 refine Fact.nil ?_
 refine Fact.q hf (by simp only [Fact.G]) rfl fun fr1 hf1 hT => ?_
 have hKp : _ ∧ _ ∧ _ ∧ _ ∧ _ ∧ _ ∧ _ := ⟨hT 0, hT 1, hT 5, hT 6, hT 13, hT 14, hT 15⟩
 simp only [Fact.G, Nat.reduceEqDiff, Nat.reduceLT, hf.size, reduceIte, s0, s1, s5, s6, s13, s14] at hKp
 clear hT hf s0 s1 s5 s6 s13 s14
 obtain ⟨s0, s1, s5, s6, s13, s14, s15⟩ := hKp
 have hf := hf1; clear hf1
 refine Fact.nx (hK6 _ _ ?_)
 refine wp_seq_k (fun K7 hK7 => ?_)
 refine Fact.cond_s s15 (fun hq => ?_) (fun hq => ?_)
 · (
 have hlt : i < q.size + 1 := by have h9 := of_decide_eq_true hq; omega
 obtain ⟨F, hF⟩ : ∃ F, F = (num q sv b) i (lastOf (num q sv b) k i) := ⟨_, rfl⟩
 have hc := cel_last (num q sv b) k i
 rw [← hF] at hc
 have HF := Lib.hid hF; clear hF
 obtain ⟨C, hC⟩ : ∃ C, C = cel (num q sv b) k i := ⟨_, rfl⟩
 rw [← hC] at hc
 have hC9 : C ≤ k + 1 := by omega
 have HC := Lib.hid hC; have HCC := Lib.hid hc; clear hC hc
 have e9 : min (F : Int) ((k : Int) + 1) = (C : Int) := by have := HCC.out; omega
 have e5 : IntKind.u8.wrap (C : Int) = (C : Int) := Fact.wrap_u8 (by omega) (by omega)
 refine wp_skip ?_
 refine Fact.nx (hK7 _ _ ?_)
 refine wp_seq_k (fun K8 hK8 => ?_)
 refine wp_block ?_
 refine wp_seq_k (fun K9 hK9 => ?_)
 refine Fact.region ?_
 have b16 := hf.l 16 rfl
 refine Fact.p rfl fun K hK => ?_
 go_simp
 refine hK.out _ _ ?_; clear hK K
 refine Fact.p rfl fun K hK => ?_
 go_simp
 refine hK.out _ _ ?_; clear hK K
 refine Fact.nil ?_
 refine Fact.q hf (by simp only [Fact.G]) rfl fun fr1 hf1 hT => ?_
 have hKp : _ ∧ _ ∧ _ ∧ _ ∧ _ ∧ _ ∧ _ ∧ _ ∧ _ := ⟨hT 0, hT 1, hT 5, hT 6, hT 7, hT 13, hT 14, hT 15, hT 16⟩
 simp only [Fact.G, Nat.reduceEqDiff, Nat.reduceLT, hf.size, reduceIte, s0, s1, s5, s6, s13, s14, s15] at hKp
 clear hT hf s0 s1 s5 s6 s13 s14 s15 b16
 obtain ⟨s0, s1, s5, s6, s7, s13, s14, s15, s16⟩ := hKp
 have hf := hf1; clear hf1
 refine Fact.nx (hK9 _ _ ?_)
 refine wp_seq_k (fun K10 hK10 => ?_)
 refine Stab.todo_begin (n := 32) (Stab.OkOps.of (by kernel_rfl)) (fun hok => ?_)
 refine Stab.mvO (k := 0) s1 hf.size hok.out rfl rfl rfl (.inl rfl) (by kernel_rfl) ?_
 refine Stab.mvO (k := 1) s7 hf.size hok.out rfl rfl rfl (.inl rfl) (by kernel_rfl) ?_
 refine Stab.mvP (k := 2) (j := 10) s6 hf.size hok.out rfl rfl rfl (.inl rfl) [] (by kernel_rfl) (by kernel_rfl) ?_
 apply Stab.t 3 _ hf.size hok.out rfl
 · (
 intro fr1 w1 hh hd hk K hK
 refine Stab.op_plain (o := _) rfl rfl ?_
 have s17 := Stab.u 0 2 hd hk rfl [] (by kernel_rfl) rfl rfl rfl
 have s18 := Stab.u 1 1 hd hk rfl [] (by kernel_rfl) rfl rfl rfl
 have s19 := Stab.u 2 0 hd hk rfl [] (by kernel_rfl) rfl rfl rfl
 clear hd
 have hbb := hb.trans (hh.ext.mono hbs)
 go_simp
 go_at_call 35; refine (step35b w1 i (lastOf (num q sv b) k i) F gp gs ga gb sv q b k HF.out (by omega) (by omega) (cell_later hbb h1) (cell_later hbb h2) (cell_later hbb h3) (hA.later hbb) hs).mono ?_; rintro e w2 ⟨rfl, hb⟩
 exact hK.out _ rfl _ _ hb rfl)
 refine Stab.mvO (k := 4) s0 hf.size hok.out rfl rfl rfl (.inl rfl) (by kernel_rfl) ?_
 apply Stab.t 5 _ hf.size hok.out rfl
 · (
 intro fr1 w1 hh hd hk K hK
 refine Stab.op_plain (o := _) rfl rfl ?_
 have s21 := Stab.u 4 0 hd hk rfl [] (by kernel_rfl) rfl rfl rfl
 clear hd
 go_simp
 exact hK.out _ rfl _ _ (Below.refl _ _) rfl)
 apply Stab.t 6 _ hf.size hok.out rfl
 · (
 intro fr1 w1 hh hd hk K hK
 refine Stab.op_plain (o := _) rfl rfl ?_
 have s22 := Stab.u 5 0 hd hk rfl [] (by kernel_rfl) rfl rfl rfl
 clear hd
 go_simp
 exact hK.out _ rfl _ _ (Below.refl _ _) rfl)
 apply Stab.t 7 _ hf.size hok.out rfl
 · (
 intro fr1 w1 hh hd hk K hK
 refine Stab.op_plain (o := _) rfl rfl ?_
 have s23 := Stab.u 6 0 hd hk rfl [] (by kernel_rfl) rfl rfl rfl
 clear hd
 have c7 := (hA2.later hh.ext).c1
 go_simp
 exact hK.out _ rfl _ _ (Below.refl _ _) rfl)
 apply Stab.t 8 _ hf.size hok.out rfl
 · (
 intro fr1 w1 hh hd hk K hK
 refine Stab.op_plain (o := _) rfl rfl ?_
 have s24 := Stab.u 7 0 hd hk rfl [] (by kernel_rfl) rfl rfl rfl
 clear hd
 go_simp
 try simp (disch := omega) only [Fact.wrap_i64, Fact.wrap_u8, Fact.wrap_u32, Fact.wrap_u64]
 exact hK.out _ rfl _ _ (Below.refl _ _) rfl)
 apply Stab.t 9 _ hf.size hok.out rfl
 · (
 intro fr1 w1 hh hd hk K hK
 refine Stab.op_plain (o := _) rfl rfl ?_
 have s20 := Stab.u 3 5 hd hk rfl [] (by kernel_rfl) rfl rfl rfl
 have s25 := Stab.u 8 0 hd hk rfl [] (by kernel_rfl) rfl rfl rfl
 clear hd
 go_simp
 exact hK.out _ rfl _ _ (Below.refl _ _) rfl)
 refine Stab.mvN (k := 10) (j := 9) (m := 0) hf.size hok.out rfl rfl rfl (.inr rfl) rfl [] (by kernel_rfl) rfl rfl rfl ?_
 refine Stab.todo_facts (n := 32) (by kernel_rfl) hf.size hok.out rfl (fun fr1 w1 hh hg => ?_)
 replace s0 := Stab.o hh (by kernel_rfl) s0
 replace s1 := Stab.o hh (by kernel_rfl) s1
 replace s5 := Stab.o hh (by kernel_rfl) s5
 clear s6; have s6 := Stab.e 10 0 hg rfl rfl rfl rfl
 replace s7 := Stab.o hh (by kernel_rfl) s7
 replace s13 := Stab.o hh (by kernel_rfl) s13
 replace s14 := Stab.o hh (by kernel_rfl) s14
 replace s15 := Stab.o hh (by kernel_rfl) s15
 replace s16 := Stab.o hh (by kernel_rfl) s16
 have s17 := Stab.e 0 10 hg rfl rfl rfl rfl
 have s18 := Stab.e 1 9 hg rfl rfl rfl rfl
 have s19 := Stab.e 2 8 hg rfl rfl rfl rfl
 have s20 := Stab.e 3 7 hg rfl rfl rfl rfl
 have s21 := Stab.e 4 6 hg rfl rfl rfl rfl
 have s22 := Stab.e 5 5 hg rfl rfl rfl rfl
 have s23 := Stab.e 6 4 hg rfl rfl rfl rfl
 have s24 := Stab.e 7 3 hg rfl rfl rfl rfl
 have s25 := Stab.e 8 2 hg rfl rfl rfl rfl
 have s26 := Stab.e 9 1 hg rfl rfl rfl rfl
 have hf1 : Fact.Fr 32 fr1 := ⟨hh.size.trans hf.size, hh.defers.trans hf.defers⟩
 have hx := hh.ext
 clear hg hh hf hok
 have hf := hf1; clear hf1
 refine Fact.nx (hK10 _ _ ?_)
 have hb1 := hb.trans (hx.mono hbs)
 have hbu1 := build_later hbu hx
 refine Fact.region ?_
 have b27 := hf.l 27 rfl
 have b28 := hf.l 28 rfl
 refine Fact.p rfl fun K hK => ?_
 go_simp
 refine hK.out _ _ ?_; clear hK K
 refine Fact.p rfl fun K hK => ?_
 go_simp
 refine hK.out _ _ ?_; clear hK K
 refine Fact.p rfl fun K hK => ?_
 go_simp
 go_at_call 49; refine (write_any w.heap.size w.heap.size _ (C : Int) w1 hbu1 (by rw [byteCells_length, row_length]; omega) hb1.size).mono ?_; rintro e w2 ⟨rfl, hbu2, hb2⟩
 dsimp only
 refine hK.out _ _ ?_; clear hK K
 refine Fact.nil ?_
 refine Fact.q hf (by simp only [Fact.G]) rfl fun fr1 hf1 hT => ?_
 have hKp : _ ∧ _ ∧ _ ∧ _ ∧ _ ∧ _ ∧ _ ∧ _ ∧ _ ∧ _ ∧ _ ∧ _ ∧ _ ∧ _ ∧ _ ∧ _ ∧ _ ∧ _ ∧ _ ∧ _ ∧ _ := ⟨hT 0, hT 1, hT 5, hT 6, hT 7, hT 13, hT 14, hT 15, hT 16, hT 17, hT 18, hT 19, hT 20, hT 21, hT 22, hT 23, hT 24, hT 25, hT 26, hT 27, hT 28⟩
 simp only [Fact.G, Nat.reduceEqDiff, Nat.reduceLT, hf.size, reduceIte, s0, s1, s5, s6, s7, s13, s14, s15, s16, s17, s18, s19, s20, s21, s22, s23, s24, s25, s26] at hKp
 clear hT hf s0 s1 s5 s6 s7 s13 s14 s15 s16 s17 s18 s19 s20 s21 s22 s23 s24 s25 s26 b27 b28
 obtain ⟨s0, s1, s5, s6, s7, s13, s14, s15, s16, s17, s18, s19, s20, s21, s22, s23, s24, s25, s26, s27, s28⟩ := hKp
 have hf := hf1; clear hf1
 refine Fact.block_normal ?_
 refine Fact.nx (hK8 _ _ ?_)
 refine Fact.region ?_
 have b30 := hf.l 30 rfl
 refine Fact.p rfl fun K hK => ?_
 go_simp
 try simp (disch := omega) only [Fact.wrap_i64, Fact.wrap_u8, Fact.wrap_u32, Fact.wrap_u64]
 refine hK.out _ _ ?_; clear hK K
 refine Fact.p rfl fun K hK => ?_
 go_simp
 refine hK.out _ _ ?_; clear hK K
 refine Fact.nil ?_
 refine Fact.q hf (by simp only [Fact.G]) rfl fun fr1 hf1 hT => ?_
 have hKp : _ ∧ _ ∧ _ ∧ _ ∧ _ ∧ _ ∧ _ ∧ _ ∧ _ ∧ _ ∧ _ ∧ _ ∧ _ ∧ _ ∧ _ ∧ _ ∧ _ ∧ _ ∧ _ ∧ _ ∧ _ ∧ _ := ⟨hT 0, hT 1, hT 5, hT 6, hT 7, hT 13, hT 14, hT 15, hT 16, hT 17, hT 18, hT 19, hT 20, hT 21, hT 22, hT 23, hT 24, hT 25, hT 26, hT 27, hT 28, hT 30⟩
 simp only [Fact.G, Nat.reduceEqDiff, Nat.reduceLT, hf.size, reduceIte, s0, s1, s5, s6, s7, s13, s15, s16, s17, s18, s19, s20, s21, s22, s23, s24, s25, s26, s27, s28] at hKp
 clear hT hf s0 s1 s5 s6 s7 s13 s14 s15 s16 s17 s18 s19 s20 s21 s22 s23 s24 s25 s26 s27 s28 b30
 obtain ⟨s0, s1, s5, s6, s7, s13, s14, s15, s16, s17, s18, s19, s20, s21, s22, s23, s24, s25, s26, s27, s28, s30⟩ := hKp
 have hf := hf1; clear hf1
 refine Fact.then_normal ?_
 have e8 : (C : Int) = ((UInt8.ofNat C).toNat : Int) := by simp only [UInt8.toNat_ofNat']; omega
 rw [e8, byteCells_snoc, HC.out, ← row_succ] at hbu2
 rw [HC.out] at s6
 exact ⟨_, by have := HK.out; omega, i + 1, rfl, by omega, hf, s0, s1, s5, s6, s13, by rw [s14]; rfl, .inr hbu2, hb1.trans hb2⟩)
 · (
 have hie : i = q.size + 1 := by have h9 := of_decide_eq_false hq; omega
 refine wp_exit ?_
 refine Fact.then_exit ?_
 refine Fact.then_exit ?_
 refine Fact.block_exit ?_
 refine Fact.nx (hK4 _ _ ?_)
 refine wp_seq_k (fun K11 hK11 => ?_)
 refine Fact.region ?_
 have b31 := hf.l 31 rfl
 refine Fact.p rfl fun K hK => ?_
 go_simp
 go_at_call 48; refine (Try.Builder_String_any w.heap.size w.heap.size _ wr hbu hbs).mono ?_; rintro e w9 ⟨rfl, hb9⟩
 dsimp only
 refine hK.out _ _ ?_; clear hK K
 refine Fact.p rfl fun K hK => ?_
 go_simp
 refine hK.out _ _ ?_; clear hK K
 refine Fact.nil ?_
 refine Fact.q hf (by simp only [Fact.G]) rfl fun fr1 hf1 hT => ?_
 have hKp := hT 4
 simp only [Fact.G, Nat.reduceEqDiff, Nat.reduceLT, hf.size, reduceIte] at hKp
 clear hT hf s0 s1 s5 s6 s13 s14 s15 b31
 have s4 := hKp; clear hKp
 have hf := hf1; clear hf1
 refine Fact.nx (hK11 _ _ ?_)
 refine wp_ret ?_
 subst hie
 exact Fact.ret1 rfl hf s4 ⟨rfl, hb.trans hb9⟩))
end Lv
end Go.Proofs.Ytfgfichkcckhiaa
