/- Lev: dist: least, Row, Next's closure. -/
import Derived.Test.YtfgfichkcckhiaaLNums
namespace Go.Proofs.Ytfgfichkcckhiaa
open Go.RowKit
set_option linter.unusedSimpArgs false
set_option linter.unusedVariables false
set_option linter.unnecessarySimpa false
namespace Lv
def PTwo (y z : Nat) : Stab.Pr := fun v w => ∃ b, v = .slice (some ⟨b, 0, none⟩) 2 2 ∧ ∀ (i u : Nat), [y, z][i]? = some u → w.cell? ⟨b, i, none⟩ = some (.int .i64 (u : Int))
theorem PTwo.stable (y z : Nat) : Stab.Stable (PTwo y z) := fun v w w' hb ⟨b, h1, h2⟩ => ⟨b, h1, fun i u h => cell_later hb (h2 i u h)⟩
set_option maxHeartbeats 4000000 in
set_option maxRecDepth 100000 in
theorem least68 (x y z b c : Nat) (w : World) (h : ∀ (i u : Nat), ([y, z] : List Nat)[i]? = some u → w.cell? ⟨b, i, none⟩ = some (.int .i64 (u : Int))) : Calls Try.prog 68 #[.int .i64 x, .slice (some ⟨b, 0, none⟩) 2 c] w fun e w1 => e = .returned (.int .i64 (min (min x y) z : Nat)) ∧ w = w1 := by
 refine calls_of_wp Try.func68 rfl ?_
 refine Fact.enter (n := 18) (by kernel_rfl) (fun fr hf hT => ?_)
 have s0 := hT 0 _ rfl
 have s1 := hT 1 _ rfl
 clear hT
 have HH := Lib.hid h; clear h
 refine wp_seq_k (fun K1 hK1 => ?_)
 refine Fact.region ?_
 refine Fact.p rfl fun K hK => ?_
 go_simp
 refine hK.out _ _ ?_; clear hK K
 refine Fact.nil ?_
 refine Fact.reQ (n := 18) (by simp only [Fact.G, hf.size]) hf.defers (fun fr1 hf1 hT => ?_)
 have hKp : _ ∧ _ ∧ _ := ⟨hT 0, hT 1, hT 4⟩
 simp only [Fact.G, Nat.reduceEqDiff, Nat.reduceLT, reduceIte, hf.size, s0, s1] at hKp
 clear hT hf s0 s1
 obtain ⟨s0, s1, s4⟩ := hKp
 have hf := hf1; clear hf1
 refine Fact.then_normal ?_
 refine hK1 _ _ ?_
 refine wp_seq_k (fun K2 hK2 => ?_)
 refine wp_seq_k (fun K3 hK3 => ?_)
 refine Fact.region ?_
 have b7 := hf.l 7 rfl
 refine Fact.p rfl fun K hK => ?_
 go_simp
 refine hK.out _ _ ?_; clear hK K
 refine Fact.p rfl fun K hK => ?_
 go_simp
 refine hK.out _ _ ?_; clear hK K
 refine Fact.p rfl fun K hK => ?_
 go_simp
 refine hK.out _ _ ?_; clear hK K
 refine Fact.nil ?_
 refine Fact.reQ (n := 18) (by simp only [Fact.G, hf.size]) hf.defers (fun fr1 hf1 hT => ?_)
 have hKp : _ ∧ _ ∧ _ ∧ _ ∧ _ := ⟨hT 0, hT 4, hT 7, hT 8, hT 9⟩
 simp only [Fact.G, Nat.reduceEqDiff, Nat.reduceLT, reduceIte, hf.size, s0, s4] at hKp
 clear hT hf s0 s1 s4 b7
 obtain ⟨s0, s4, s7, s8, s9⟩ := hKp
 have hf := hf1; clear hf1
 refine Fact.then_normal ?_
 refine hK3 _ _ ?_
 refine wp_block ?_
 refine wp_loop_ghost (fun gk fr wr => ∃ (i A : Nat), gk = 2 - i ∧ i ≤ 2 ∧ A = (([y, z] : List Nat).take i).foldl min x ∧ Fact.Fr 18 fr ∧ fr.tmps[0]? = some (.int .i64 A) ∧ fr.tmps[7]? = some (.slice (some ⟨b, 0, none⟩) 2 c) ∧ fr.tmps[8]? = some (.int .i64 2) ∧ fr.tmps[9]? = some (.int .i64 i) ∧ wr = w) (2) ?_ ?_
 ·
  exact ⟨0, x, rfl, Nat.zero_le _, rfl, hf, s0, s7, s8, s9, rfl⟩
 ·
  clear hf s0 s4 s7 s8 s9
  rintro gk fr wr ⟨i, A, hk, hi, hA, hf, s0, s7, s8, s9, rfl⟩
  have HK := Lib.hid hk; have HA := Lib.hid hA; clear hk hA
  refine wp_seq_k (fun K4 hK4 => ?_)
  refine Fact.region ?_
  refine Fact.p rfl fun K hK => ?_
  go_simp
  refine hK.out _ _ ?_; clear hK K
  refine Fact.nil ?_
  refine Fact.reQ (n := 18) (by simp only [Fact.G, hf.size]) hf.defers (fun fr1 hf1 hT => ?_)
  have hKp : _ ∧ _ ∧ _ ∧ _ ∧ _ := ⟨hT 0, hT 7, hT 8, hT 9, hT 10⟩
  simp only [Fact.G, Nat.reduceEqDiff, Nat.reduceLT, reduceIte, hf.size, s0, s7, s8, s9] at hKp
  clear hT hf s0 s7 s8 s9
  obtain ⟨s0, s7, s8, s9, s10⟩ := hKp
  have hf := hf1; clear hf1
  refine Fact.then_normal ?_
  refine hK4 _ _ ?_
  refine wp_seq_k (fun K5 hK5 => ?_)
  refine Fact.cond_s s10 (fun hq => ?_) (fun hq => ?_)
  ·
   have hlt : i < 2 := by have h9 := of_decide_eq_true hq; omega
   obtain ⟨u, hu⟩ : ∃ u, ([y, z] : List Nat)[i]? = some u := ⟨_, List.getElem?_eq_getElem (by simpa using hlt)⟩
   have cu := HH.out i u hu
   have HU := Lib.hid hu; clear hu
   have e1 : min (A : Int) (u : Int) = ((min A u : Nat) : Int) := by omega
   refine wp_skip ?_
   refine Fact.then_normal ?_
   refine hK5 _ _ ?_
   refine wp_seq_k (fun K6 hK6 => ?_)
   refine wp_block ?_
   refine wp_seq_k (fun K7 hK7 => ?_)
   refine Fact.region ?_
   have b11 := hf.l 11 rfl
   have b12 := hf.l 12 rfl
   refine Fact.p rfl fun K hK => ?_
   go_simp
   try rw [if_pos (by omega)]
   refine hK.out _ _ ?_; clear hK K
   refine Fact.p rfl fun K hK => ?_
   go_simp
   refine hK.out _ _ ?_; clear hK K
   refine Fact.p rfl fun K hK => ?_
   go_simp
   refine hK.out _ _ ?_; clear hK K
   refine Fact.nil ?_
   refine Fact.reQ (n := 18) (by simp only [Fact.G, hf.size]) hf.defers (fun fr1 hf1 hT => ?_)
   have hKp : _ ∧ _ ∧ _ ∧ _ ∧ _ ∧ _ ∧ _ ∧ _ := ⟨hT 0, hT 6, hT 7, hT 8, hT 9, hT 10, hT 11, hT 12⟩
   simp only [Fact.G, Nat.reduceEqDiff, Nat.reduceLT, reduceIte, hf.size, s0, s7, s8, s9, s10] at hKp
   clear hT hf s0 s7 s8 s9 s10 b11 b12
   obtain ⟨s0, s6, s7, s8, s9, s10, s11, s12⟩ := hKp
   have hf := hf1; clear hf1
   refine Fact.then_normal ?_
   refine hK7 _ _ ?_
   refine Fact.region ?_
   have b13 := hf.l 13 rfl
   have b14 := hf.l 14 rfl
   have b15 := hf.l 15 rfl
   refine Fact.p rfl fun K hK => ?_
   go_simp
   refine hK.out _ _ ?_; clear hK K
   refine Fact.p rfl fun K hK => ?_
   go_simp
   refine hK.out _ _ ?_; clear hK K
   refine Fact.p rfl fun K hK => ?_
   go_simp
   try simp only [e1]
   refine hK.out _ _ ?_; clear hK K
   refine Fact.p rfl fun K hK => ?_
   go_simp
   refine hK.out _ _ ?_; clear hK K
   refine Fact.nil ?_
   refine Fact.reQ (n := 18) (by simp only [Fact.G, hf.size]) hf.defers (fun fr1 hf1 hT => ?_)
   have hKp : _ ∧ _ ∧ _ ∧ _ ∧ _ ∧ _ ∧ _ ∧ _ ∧ _ ∧ _ ∧ _ := ⟨hT 0, hT 6, hT 7, hT 8, hT 9, hT 10, hT 11, hT 12, hT 13, hT 14, hT 15⟩
   simp only [Fact.G, Nat.reduceEqDiff, Nat.reduceLT, reduceIte, hf.size, s6, s7, s8, s9, s10, s11, s12] at hKp
   clear hT hf s0 s6 s7 s8 s9 s10 s11 s12 b13 b14 b15
   obtain ⟨s0, s6, s7, s8, s9, s10, s11, s12, s13, s14, s15⟩ := hKp
   have hf := hf1; clear hf1
   refine Fact.block_normal ?_
   refine Fact.then_normal ?_
   refine hK6 _ _ ?_
   refine Fact.region ?_
   have b16 := hf.l 16 rfl
   refine Fact.p rfl fun K hK => ?_
   go_simp
   try simp (disch := omega) only [Fact.wrap_i64, Fact.wrap_u8, Fact.wrap_u32, Fact.wrap_u64]
   refine hK.out _ _ ?_; clear hK K
   refine Fact.p rfl fun K hK => ?_
   go_simp
   refine hK.out _ _ ?_; clear hK K
   refine Fact.nil ?_
   refine Fact.reQ (n := 18) (by simp only [Fact.G, hf.size]) hf.defers (fun fr1 hf1 hT => ?_)
   have hKp : _ ∧ _ ∧ _ ∧ _ ∧ _ ∧ _ ∧ _ ∧ _ ∧ _ ∧ _ ∧ _ ∧ _ := ⟨hT 0, hT 6, hT 7, hT 8, hT 9, hT 10, hT 11, hT 12, hT 13, hT 14, hT 15, hT 16⟩
   simp only [Fact.G, Nat.reduceEqDiff, Nat.reduceLT, reduceIte, hf.size, s0, s6, s7, s8, s10, s11, s12, s13, s14, s15] at hKp
   clear hT hf s0 s6 s7 s8 s9 s10 s11 s12 s13 s14 s15 b16
   obtain ⟨s0, s6, s7, s8, s9, s10, s11, s12, s13, s14, s15, s16⟩ := hKp
   have hf := hf1; clear hf1
   refine Fact.then_normal ?_
   exact ⟨_, by have := HK.out; omega, i + 1, min A u, rfl, by omega, by rw [fold_step HU.out, HA.out], hf, s0, s7, s8, by rw [s9]; rfl, rfl⟩
  ·
   have hie : i = 2 := by have h9 := of_decide_eq_false hq; omega
   refine wp_exit ?_
   refine Fact.then_exit ?_
   refine Fact.then_exit ?_
   refine Fact.block_exit ?_
   refine Fact.then_normal ?_
   refine hK2 _ _ ?_
   refine wp_seq_k (fun K8 hK8 => ?_)
   refine Fact.region ?_
   have b17 := hf.l 17 rfl
   refine Fact.p rfl fun K hK => ?_
   go_simp
   refine hK.out _ _ ?_; clear hK K
   refine Fact.p rfl fun K hK => ?_
   go_simp
   refine hK.out _ _ ?_; clear hK K
   refine Fact.nil ?_
   refine Fact.reQ (n := 18) (by simp only [Fact.G, hf.size]) hf.defers (fun fr1 hf1 hT => ?_)
   have hKp := hT 4
   simp only [Fact.G, Nat.reduceEqDiff, Nat.reduceLT, reduceIte, hf.size] at hKp
   clear hT hf s0 s7 s8 s9 s10 b17
   have s4 := hKp; clear hKp
   have hf := hf1; clear hf1
   refine Fact.then_normal ?_
   refine hK8 _ _ ?_
   refine wp_ret ?_
   subst hie
   exact Fact.ret1 rfl hf s4 ⟨by rw [HA.out]; rfl, rfl⟩
set_option maxHeartbeats 4000000 in
set_option maxRecDepth 100000 in
theorem row54 (q : ByteArray) (hq0 : q.size ≤ 900) (w : World) : Calls Try.prog 54 #[.string q] w fun e w1 => ∃ v, e = .returned v ∧ Rd w1 v (q.size + 1) (fun i => i) ∧ Below w.heap.size w w1 := by
 refine calls_of_wp Try.func54 rfl ?_
 refine Fact.enter (n := 20) (by kernel_rfl) (fun fr hf hT => ?_)
 have s0 := hT 0 _ rfl
 clear hT
 have hmk := make58 (q.size + 1) (by omega) w
 rw [show ((q.size + 1 : Nat) : Int) = (q.size : Int) + 1 by omega] at hmk
 refine wp_seq_k (fun K1 hK1 => ?_)
 refine Fact.region ?_
 refine Fact.p rfl fun K hK => ?_
 go_simp
 refine hK.out _ _ ?_; clear hK K
 refine Fact.nil ?_
 refine Fact.reQ (n := 20) (by simp only [Fact.G, hf.size]) hf.defers (fun fr1 hf1 hT => ?_)
 have hKp : _ ∧ _ := ⟨hT 0, hT 2⟩
 simp only [Fact.G, Nat.reduceEqDiff, Nat.reduceLT, reduceIte, hf.size, s0] at hKp
 clear hT hf s0
 obtain ⟨s0, s2⟩ := hKp
 have hf := hf1; clear hf1
 refine Fact.then_normal ?_
 refine hK1 _ _ ?_
 refine wp_seq_k (fun K2 hK2 => ?_)
 refine Fact.region ?_
 have b5 := hf.l 5 rfl
 have b6 := hf.l 6 rfl
 have b7 := hf.l 7 rfl
 have b8 := hf.l 8 rfl
 refine Fact.p rfl fun K hK => ?_
 go_simp
 refine hK.out _ _ ?_; clear hK K
 refine Fact.p rfl fun K hK => ?_
 go_simp
 refine hK.out _ _ ?_; clear hK K
 refine Fact.p rfl fun K hK => ?_
 go_simp
 try simp (disch := omega) only [Fact.wrap_i64, Fact.wrap_u8, Fact.wrap_u32, Fact.wrap_u64]
 refine hK.out _ _ ?_; clear hK K
 refine Fact.p rfl fun K hK => ?_
 go_simp
 refine hK.out _ _ ?_; clear hK K
 refine Fact.p rfl fun K hK => ?_
 go_simp
 refine hK.out _ _ ?_; clear hK K
 refine Fact.nil ?_
 refine Fact.reQ (n := 20) (by simp only [Fact.G, hf.size]) hf.defers (fun fr1 hf1 hT => ?_)
 have hKp : _ ∧ _ := ⟨hT 2, hT 3⟩
 simp only [Fact.G, Nat.reduceEqDiff, Nat.reduceLT, reduceIte, hf.size, s2] at hKp
 clear hT hf s0 s2 b5 b6 b7 b8
 obtain ⟨s2, s3⟩ := hKp
 have hf := hf1; clear hf1
 refine Fact.then_normal ?_
 refine hK2 _ _ ?_
 refine wp_seq_k (fun K3 hK3 => ?_)
 refine wp_seq_k (fun K4 hK4 => ?_)
 refine Fact.region ?_
 have b9 := hf.l 9 rfl
 refine Fact.p rfl fun K hK => ?_
 go_simp
 refine hK.out _ _ ?_; clear hK K
 refine Fact.p rfl fun K hK => ?_
 go_simp
 refine hK.out _ _ ?_; clear hK K
 refine Fact.p rfl fun K hK => ?_
 go_simp
 refine hK.out _ _ ?_; clear hK K
 refine Fact.nil ?_
 refine Fact.reQ (n := 20) (by simp only [Fact.G, hf.size]) hf.defers (fun fr1 hf1 hT => ?_)
 have hKp : _ ∧ _ ∧ _ ∧ _ := ⟨hT 2, hT 3, hT 10, hT 11⟩
 simp only [Fact.G, Nat.reduceEqDiff, Nat.reduceLT, reduceIte, hf.size, s2, s3] at hKp
 clear hT hf s2 s3 b9
 obtain ⟨s2, s3, s10, s11⟩ := hKp
 have hf := hf1; clear hf1
 refine Fact.then_normal ?_
 refine hK4 _ _ ?_
 refine wp_block ?_
 obtain ⟨W0, hW0⟩ : ∃ W0, w.alloc (.cells (madeCells #[.int .i64 0] (q.size + 1)) 3) = W0 := ⟨_, rfl⟩
 have hu0 := Upto.start w (q.size + 1)
 rw [hW0] at hu0
 have hb0 : Below w.heap.size w W0 := by rw [← hW0]; exact (Below.refl _ _).alloc (Nat.le_refl _) _
 try rw [hW0]
 clear hW0 hmk
 refine wp_loop_ghost (fun gk fr wr => ∃ i : Nat, gk = q.size + 1 - i ∧ i ≤ q.size + 1 ∧ Fact.Fr 20 fr ∧ fr.tmps[3]? = some (.slice (some ⟨w.heap.size, 0, none⟩) (q.size + 1) (q.size + 1)) ∧ fr.tmps[10]? = some (.int .i64 ((q.size : Int) + 1)) ∧ fr.tmps[11]? = some (.int .i64 i) ∧ Upto wr w.heap.size (q.size + 1) i ∧ Below w.heap.size w wr) (q.size + 1) ?_ ?_
 ·
  exact ⟨0, rfl, Nat.zero_le _, hf, s3, s10, s11, hu0, hb0⟩
 ·
  clear hf s2 s3 s10 s11
  rintro gk fr wr ⟨i, hk, hi, hf, s3, s10, s11, hu, hb⟩
  have HK := Lib.hid hk; clear hk
  refine wp_seq_k (fun K5 hK5 => ?_)
  refine Fact.region ?_
  refine Fact.p rfl fun K hK => ?_
  go_simp
  refine hK.out _ _ ?_; clear hK K
  refine Fact.nil ?_
  refine Fact.reQ (n := 20) (by simp only [Fact.G, hf.size]) hf.defers (fun fr1 hf1 hT => ?_)
  have hKp : _ ∧ _ ∧ _ ∧ _ := ⟨hT 3, hT 10, hT 11, hT 12⟩
  simp only [Fact.G, Nat.reduceEqDiff, Nat.reduceLT, reduceIte, hf.size, s3, s10, s11] at hKp
  clear hT hf s3 s10 s11
  obtain ⟨s3, s10, s11, s12⟩ := hKp
  have hf := hf1; clear hf1
  refine Fact.then_normal ?_
  refine hK5 _ _ ?_
  refine wp_seq_k (fun K6 hK6 => ?_)
  refine Fact.cond_s s12 (fun hq => ?_) (fun hq => ?_)
  ·
   have hlt : i < q.size + 1 := by have h9 := of_decide_eq_true hq; omega
   obtain ⟨hc, hz⟩ := hu.cell hlt
   refine wp_skip ?_
   refine Fact.then_normal ?_
   refine hK6 _ _ ?_
   refine wp_seq_k (fun K7 hK7 => ?_)
   refine wp_block ?_
   refine wp_seq_k (fun K8 hK8 => ?_)
   refine Fact.region ?_
   have b13 := hf.l 13 rfl
   refine Fact.p rfl fun K hK => ?_
   go_simp
   refine hK.out _ _ ?_; clear hK K
   refine Fact.p rfl fun K hK => ?_
   go_simp
   refine hK.out _ _ ?_; clear hK K
   refine Fact.nil ?_
   refine Fact.reQ (n := 20) (by simp only [Fact.G, hf.size]) hf.defers (fun fr1 hf1 hT => ?_)
   have hKp : _ ∧ _ ∧ _ ∧ _ ∧ _ ∧ _ := ⟨hT 3, hT 4, hT 10, hT 11, hT 12, hT 13⟩
   simp only [Fact.G, Nat.reduceEqDiff, Nat.reduceLT, reduceIte, hf.size, s3, s10, s11, s12] at hKp
   clear hT hf s3 s10 s11 s12 b13
   obtain ⟨s3, s4, s10, s11, s12, s13⟩ := hKp
   have hf := hf1; clear hf1
   refine Fact.then_normal ?_
   refine hK8 _ _ ?_
   refine Fact.region ?_
   have b14 := hf.l 14 rfl
   have b15 := hf.l 15 rfl
   have b16 := hf.l 16 rfl
   have b17 := hf.l 17 rfl
   refine Fact.p rfl fun K hK => ?_
   go_simp
   refine hK.out _ _ ?_; clear hK K
   refine Fact.p rfl fun K hK => ?_
   go_simp
   refine hK.out _ _ ?_; clear hK K
   refine Fact.p rfl fun K hK => ?_
   go_simp
   refine hK.out _ _ ?_; clear hK K
   refine Fact.p rfl fun K hK => ?_
   go_simp
   try rw [if_pos (by omega)]
   refine hK.out _ _ ?_; clear hK K
   refine Fact.p rfl fun K hK => ?_
   go_simp
   refine hK.out _ _ ?_; clear hK K
   refine Fact.nil ?_
   refine Fact.reQ (n := 20) (by simp only [Fact.G, hf.size]) hf.defers (fun fr1 hf1 hT => ?_)
   have hKp : _ ∧ _ ∧ _ ∧ _ ∧ _ ∧ _ ∧ _ ∧ _ ∧ _ ∧ _ := ⟨hT 3, hT 4, hT 10, hT 11, hT 12, hT 13, hT 14, hT 15, hT 16, hT 17⟩
   simp only [Fact.G, Nat.reduceEqDiff, Nat.reduceLT, reduceIte, hf.size, s3, s4, s10, s11, s12, s13] at hKp
   clear hT hf s3 s4 s10 s11 s12 s13 b14 b15 b16 b17
   obtain ⟨s3, s4, s10, s11, s12, s13, s14, s15, s16, s17⟩ := hKp
   have hf := hf1; clear hf1
   refine Fact.block_normal ?_
   refine Fact.then_normal ?_
   refine hK7 _ _ ?_
   refine Fact.region ?_
   have b18 := hf.l 18 rfl
   refine Fact.p rfl fun K hK => ?_
   go_simp
   try simp (disch := omega) only [Fact.wrap_i64, Fact.wrap_u8, Fact.wrap_u32, Fact.wrap_u64]
   refine hK.out _ _ ?_; clear hK K
   refine Fact.p rfl fun K hK => ?_
   go_simp
   refine hK.out _ _ ?_; clear hK K
   refine Fact.nil ?_
   refine Fact.reQ (n := 20) (by simp only [Fact.G, hf.size]) hf.defers (fun fr1 hf1 hT => ?_)
   have hKp : _ ∧ _ ∧ _ ∧ _ ∧ _ ∧ _ ∧ _ ∧ _ ∧ _ ∧ _ ∧ _ := ⟨hT 3, hT 4, hT 10, hT 11, hT 12, hT 13, hT 14, hT 15, hT 16, hT 17, hT 18⟩
   simp only [Fact.G, Nat.reduceEqDiff, Nat.reduceLT, reduceIte, hf.size, s3, s4, s10, s12, s13, s14, s15, s16, s17] at hKp
   clear hT hf s3 s4 s10 s11 s12 s13 s14 s15 s16 s17 b18
   obtain ⟨s3, s4, s10, s11, s12, s13, s14, s15, s16, s17, s18⟩ := hKp
   have hf := hf1; clear hf1
   refine Fact.then_normal ?_
   exact ⟨_, by have := HK.out; omega, i + 1, rfl, by omega, hf, s3, s10, by rw [s11]; rfl, hu.put hlt, hb.setCell (Nat.le_refl _) _⟩
  ·
   have hie : i = q.size + 1 := by have h9 := of_decide_eq_false hq; omega
   refine wp_exit ?_
   refine Fact.then_exit ?_
   refine Fact.then_exit ?_
   refine Fact.block_exit ?_
   refine Fact.then_normal ?_
   refine hK3 _ _ ?_
   refine wp_seq_k (fun K9 hK9 => ?_)
   refine Fact.region ?_
   have b19 := hf.l 19 rfl
   refine Fact.p rfl fun K hK => ?_
   go_simp
   refine hK.out _ _ ?_; clear hK K
   refine Fact.p rfl fun K hK => ?_
   go_simp
   refine hK.out _ _ ?_; clear hK K
   refine Fact.nil ?_
   refine Fact.reQ (n := 20) (by simp only [Fact.G, hf.size]) hf.defers (fun fr1 hf1 hT => ?_)
   have hKp := hT 2
   simp only [Fact.G, Nat.reduceEqDiff, Nat.reduceLT, reduceIte, hf.size] at hKp
   clear hT hf s3 s10 s11 s12 b19
   have s2 := hKp; clear hKp
   have hf := hf1; clear hf1
   refine Fact.then_normal ?_
   refine hK9 _ _ ?_
   refine wp_ret ?_
   subst hie
   exact Fact.ret1 rfl hf s2 ⟨_, rfl, hu.rd, hb⟩
set_option maxHeartbeats 4000000 in
set_option maxRecDepth 100000 in
theorem next67e (q : ByteArray) (c i gq gc gr gn : Nat) (r : Nat → Nat) (vr vn : Value) (hi : i < q.size) (hq9 : q.size ≤ 900) (hr9 : ∀ j, j ≤ q.size → r j ≤ 100000) (w : World) (hq0 : w.cell? ⟨gq, 0, none⟩ = some (.string q)) (hc0 : w.cell? ⟨gc, 0, none⟩ = some (.int .u8 c)) (hr0 : w.cell? ⟨gr, 0, none⟩ = some vr) (hn0 : w.cell? ⟨gn, 0, none⟩ = some vn) (hrd : Rd w vr (q.size + 1) r) (hnd : Rd w vn (i + 1) (nx q c r)) (N : Nat) (hN : nx q c r (i + 1) = N) (heq : at_ q i = c) : Calls Try.prog 67 #[.int .i64 i, .pointer (some ⟨gq, 0, none⟩), .pointer (some ⟨gc, 0, none⟩), .pointer (some ⟨gr, 0, none⟩), .pointer (some ⟨gn, 0, none⟩)] w fun e w1 => e = .returned (.int .i64 (N : Int)) ∧ Below w.heap.size w w1 := by
 refine calls_of_wp Try.func67 rfl ?_
 refine Fact.enter (n := 32) (by kernel_rfl) (fun fr hf hT => ?_)
 have s0 := hT 0 _ rfl
 have s1 := hT 1 _ rfl
 have s2 := hT 2 _ rfl
 have s3 := hT 3 _ rfl
 have s4 := hT 4 _ rfl
 clear hT
 have hat1 : ∀ (j : Nat) (h : j < q.size), q[j].toNat = at_ q j := fun j h => (at_get h).symm
 obtain ⟨g1, c1, rfl, h1⟩ := hrd
 obtain ⟨g2, c2, rfl, h2⟩ := hnd
 have y0 := h1 i (by omega)
 have y1 := h1 (i + 1) (by omega)
 have y2 := h2 i (by omega)
 refine wp_seq_k (fun K1 hK1 => ?_)
 refine Fact.region ?_
 refine Fact.p rfl fun K hK => ?_
 go_simp
 refine hK.out _ _ ?_; clear hK K
 refine Fact.nil ?_
 refine Fact.reQ (n := 32) (by simp only [Fact.G, hf.size]) hf.defers (fun fr1 hf1 hT => ?_)
 have hKp : _ ∧ _ ∧ _ ∧ _ ∧ _ ∧ _ := ⟨hT 0, hT 1, hT 2, hT 3, hT 4, hT 6⟩
 simp only [Fact.G, Nat.reduceEqDiff, Nat.reduceLT, reduceIte, hf.size, s0, s1, s2, s3, s4] at hKp
 clear hT hf s0 s1 s2 s3 s4
 obtain ⟨s0, s1, s2, s3, s4, s6⟩ := hKp
 have hf := hf1; clear hf1
 refine Fact.then_normal ?_
 refine hK1 _ _ ?_
 refine wp_seq_k (fun K2 hK2 => ?_)
 refine wp_seq_k (fun K3 hK3 => ?_)
 refine Stab.todo_begin (n := 32) (Stab.OkOps.of (by kernel_rfl)) (fun hok => ?_)
 apply Stab.t 0 _ hf.size hok.out rfl
 ·
  intro fr1 w1 hh hd hk K hK
  refine Stab.op_plain (o := _) rfl rfl ?_
  have s1 := Stab.o hh (by kernel_rfl) s1
  clear hd
  have u0 := cell_later hh.ext hq0
  go_simp
  exact hK.out _ rfl _ _ (Below.refl _ _) rfl
 refine Stab.mvO (k := 1) s0 hf.size hok.out rfl rfl rfl (.inl rfl) (by kernel_rfl) ?_
 apply Stab.t 2 _ hf.size hok.out rfl
 ·
  intro fr1 w1 hh hd hk K hK
  refine Stab.op_plain (o := _) rfl rfl ?_
  have s7 := Stab.u 0 1 hd hk rfl [] (by kernel_rfl) rfl rfl rfl
  have s8 := Stab.u 1 0 hd hk rfl [] (by kernel_rfl) rfl rfl rfl
  clear hd
  go_simp
  try rw [if_pos (by omega)]
  exact hK.out _ rfl _ _ (Below.refl _ _) rfl
 apply Stab.t 3 _ hf.size hok.out rfl
 ·
  intro fr1 w1 hh hd hk K hK
  refine Stab.op_plain (o := _) rfl rfl ?_
  have s2 := Stab.o hh (by kernel_rfl) s2
  clear hd
  have u0 := cell_later hh.ext hc0
  go_simp
  exact hK.out _ rfl _ _ (Below.refl _ _) rfl
 apply Stab.t 4 _ hf.size hok.out rfl
 ·
  intro fr1 w1 hh hd hk K hK
  refine Stab.op_plain (o := _) rfl rfl ?_
  have s9 := Stab.u 2 1 hd hk rfl [] (by kernel_rfl) rfl rfl rfl
  have s10 := Stab.u 3 0 hd hk rfl [] (by kernel_rfl) rfl rfl rfl
  clear hd
  go_simp
  exact hK.out _ rfl _ _ (Below.refl _ _) rfl
 refine Stab.todo_facts (n := 32) (by kernel_rfl) hf.size hok.out rfl (fun fr1 w1 hh hg => ?_)
 replace s0 := Stab.o hh (by kernel_rfl) s0
 replace s3 := Stab.o hh (by kernel_rfl) s3
 replace s4 := Stab.o hh (by kernel_rfl) s4
 replace s6 := Stab.o hh (by kernel_rfl) s6
 have s11 := Stab.e 4 0 hg rfl rfl rfl rfl
 have hf1 : Fact.Fr 32 fr1 := ⟨hh.size.trans hf.size, hh.defers.trans hf.defers⟩
 have hx := hh.ext
 clear hg hh hf hok s1 s2
 have hf := hf1; clear hf1
 refine Fact.then_normal ?_
 refine hK3 _ _ ?_
 have q1 : ((at_ q i : Int) == (c : Int)) = true := beq_iff_eq.2 (by omega)
 try simp only [q1] at s11
 have v0 := cell_later hx hr0; have v1 := cell_later hx y0
 refine Fact.cond_t s11 ?_
 refine wp_seq_k (fun K4 hK4 => ?_)
 refine Fact.region ?_
 have b12 := hf.l 12 rfl
 have b13 := hf.l 13 rfl
 have b14 := hf.l 14 rfl
 have b15 := hf.l 15 rfl
 refine Fact.p rfl fun K hK => ?_
 go_simp
 refine hK.out _ _ ?_; clear hK K
 refine Fact.p rfl fun K hK => ?_
 go_simp
 refine hK.out _ _ ?_; clear hK K
 refine Fact.p rfl fun K hK => ?_
 go_simp
 try rw [if_pos (by omega)]
 refine hK.out _ _ ?_; clear hK K
 refine Fact.p rfl fun K hK => ?_
 go_simp
 refine hK.out _ _ ?_; clear hK K
 refine Fact.p rfl fun K hK => ?_
 go_simp
 refine hK.out _ _ ?_; clear hK K
 refine Fact.nil ?_
 refine Fact.reQ (n := 32) (by simp only [Fact.G, hf.size]) hf.defers (fun fr1 hf1 hT => ?_)
 have hKp : _ ∧ _ ∧ _ ∧ _ := ⟨hT 0, hT 3, hT 4, hT 6⟩
 simp only [Fact.G, Nat.reduceEqDiff, Nat.reduceLT, reduceIte, hf.size, s0, s3, s4] at hKp
 clear hT hf s0 s3 s4 s6 s11 b12 b13 b14 b15
 obtain ⟨s0, s3, s4, s6⟩ := hKp
 have hf := hf1; clear hf1
 refine Fact.then_normal ?_
 refine hK4 _ _ ?_
 refine wp_ret ?_
 refine Fact.then_ret ?_
 exact Fact.ret1 rfl hf s6 ⟨by rw [← hN, nx_s, if_pos heq], hx⟩
set_option maxHeartbeats 4000000 in
set_option maxRecDepth 100000 in
theorem next67n (q : ByteArray) (c i gq gc gr gn : Nat) (r : Nat → Nat) (vr vn : Value) (hi : i < q.size) (hq9 : q.size ≤ 900) (hr9 : ∀ j, j ≤ q.size → r j ≤ 100000) (w : World) (hq0 : w.cell? ⟨gq, 0, none⟩ = some (.string q)) (hc0 : w.cell? ⟨gc, 0, none⟩ = some (.int .u8 c)) (hr0 : w.cell? ⟨gr, 0, none⟩ = some vr) (hn0 : w.cell? ⟨gn, 0, none⟩ = some vn) (hrd : Rd w vr (q.size + 1) r) (hnd : Rd w vn (i + 1) (nx q c r)) (N : Nat) (hN : nx q c r (i + 1) = N) (heq : at_ q i ≠ c) : Calls Try.prog 67 #[.int .i64 i, .pointer (some ⟨gq, 0, none⟩), .pointer (some ⟨gc, 0, none⟩), .pointer (some ⟨gr, 0, none⟩), .pointer (some ⟨gn, 0, none⟩)] w fun e w1 => e = .returned (.int .i64 (N : Int)) ∧ Below w.heap.size w w1 := by
 refine calls_of_wp Try.func67 rfl ?_
 refine Fact.enter (n := 32) (by kernel_rfl) (fun fr hf hT => ?_)
 have s0 := hT 0 _ rfl
 have s1 := hT 1 _ rfl
 have s2 := hT 2 _ rfl
 have s3 := hT 3 _ rfl
 have s4 := hT 4 _ rfl
 clear hT
 have hat1 : ∀ (j : Nat) (h : j < q.size), q[j].toNat = at_ q j := fun j h => (at_get h).symm
 obtain ⟨g1, c1, rfl, h1⟩ := hrd
 obtain ⟨g2, c2, rfl, h2⟩ := hnd
 have y0 := h1 i (by omega)
 have y1 := h1 (i + 1) (by omega)
 have y2 := h2 i (by omega)
 refine wp_seq_k (fun K1 hK1 => ?_)
 refine Fact.region ?_
 refine Fact.p rfl fun K hK => ?_
 go_simp
 refine hK.out _ _ ?_; clear hK K
 refine Fact.nil ?_
 refine Fact.reQ (n := 32) (by simp only [Fact.G, hf.size]) hf.defers (fun fr1 hf1 hT => ?_)
 have hKp : _ ∧ _ ∧ _ ∧ _ ∧ _ ∧ _ := ⟨hT 0, hT 1, hT 2, hT 3, hT 4, hT 6⟩
 simp only [Fact.G, Nat.reduceEqDiff, Nat.reduceLT, reduceIte, hf.size, s0, s1, s2, s3, s4] at hKp
 clear hT hf s0 s1 s2 s3 s4
 obtain ⟨s0, s1, s2, s3, s4, s6⟩ := hKp
 have hf := hf1; clear hf1
 refine Fact.then_normal ?_
 refine hK1 _ _ ?_
 refine wp_seq_k (fun K2 hK2 => ?_)
 refine wp_seq_k (fun K3 hK3 => ?_)
 refine Stab.todo_begin (n := 32) (Stab.OkOps.of (by kernel_rfl)) (fun hok => ?_)
 apply Stab.t 0 _ hf.size hok.out rfl
 ·
  intro fr1 w1 hh hd hk K hK
  refine Stab.op_plain (o := _) rfl rfl ?_
  have s1 := Stab.o hh (by kernel_rfl) s1
  clear hd
  have u0 := cell_later hh.ext hq0
  go_simp
  exact hK.out _ rfl _ _ (Below.refl _ _) rfl
 refine Stab.mvO (k := 1) s0 hf.size hok.out rfl rfl rfl (.inl rfl) (by kernel_rfl) ?_
 apply Stab.t 2 _ hf.size hok.out rfl
 ·
  intro fr1 w1 hh hd hk K hK
  refine Stab.op_plain (o := _) rfl rfl ?_
  have s7 := Stab.u 0 1 hd hk rfl [] (by kernel_rfl) rfl rfl rfl
  have s8 := Stab.u 1 0 hd hk rfl [] (by kernel_rfl) rfl rfl rfl
  clear hd
  go_simp
  try rw [if_pos (by omega)]
  exact hK.out _ rfl _ _ (Below.refl _ _) rfl
 apply Stab.t 3 _ hf.size hok.out rfl
 ·
  intro fr1 w1 hh hd hk K hK
  refine Stab.op_plain (o := _) rfl rfl ?_
  have s2 := Stab.o hh (by kernel_rfl) s2
  clear hd
  have u0 := cell_later hh.ext hc0
  go_simp
  exact hK.out _ rfl _ _ (Below.refl _ _) rfl
 apply Stab.t 4 _ hf.size hok.out rfl
 ·
  intro fr1 w1 hh hd hk K hK
  refine Stab.op_plain (o := _) rfl rfl ?_
  have s9 := Stab.u 2 1 hd hk rfl [] (by kernel_rfl) rfl rfl rfl
  have s10 := Stab.u 3 0 hd hk rfl [] (by kernel_rfl) rfl rfl rfl
  clear hd
  go_simp
  exact hK.out _ rfl _ _ (Below.refl _ _) rfl
 refine Stab.todo_facts (n := 32) (by kernel_rfl) hf.size hok.out rfl (fun fr1 w1 hh hg => ?_)
 replace s0 := Stab.o hh (by kernel_rfl) s0
 replace s3 := Stab.o hh (by kernel_rfl) s3
 replace s4 := Stab.o hh (by kernel_rfl) s4
 replace s6 := Stab.o hh (by kernel_rfl) s6
 have s11 := Stab.e 4 0 hg rfl rfl rfl rfl
 have hf1 : Fact.Fr 32 fr1 := ⟨hh.size.trans hf.size, hh.defers.trans hf.defers⟩
 have hx := hh.ext
 clear hg hh hf hok s1 s2
 have hf := hf1; clear hf1
 refine Fact.then_normal ?_
 refine hK3 _ _ ?_
 have q1 : ((at_ q i : Int) == (c : Int)) = false := beq_false_of_ne (by omega)
 try simp only [q1] at s11
 refine Fact.cond_f s11 ?_
 refine wp_skip ?_
 refine Fact.then_normal ?_
 refine hK2 _ _ ?_
 have v0 := cell_later hx hr0; have v1 := cell_later hx y0; have v2 := cell_later hx y1; have v3 := cell_later hx hn0; have v4 := cell_later hx y2
 obtain ⟨X, hX⟩ : ∃ X, r i = X := ⟨_, rfl⟩
 obtain ⟨Y, hY⟩ : ∃ Y, r (i + 1) = Y := ⟨_, rfl⟩
 obtain ⟨Z, hZ⟩ : ∃ Z, nx q c r i = Z := ⟨_, rfl⟩
 have hX9 := hr9 i (by omega)
 rw [hX] at v1 hX9; rw [hY] at v2; rw [hZ] at v4
 have hNN : N = 1 + min (min X Y) Z := by rw [← hN, nx_s, if_neg heq, hX, hY, hZ]
 have HN := Lib.hid hNN
 obtain ⟨M, hM⟩ : ∃ M, min (min X Y) Z = M := ⟨_, rfl⟩
 have hM9 : M ≤ 100000 := by omega
 have e1 : 1 + (M : Int) = (N : Int) := by omega
 clear hX hY hZ hNN y0 y1 y2 h1 h2 hr9 hN
 have hx1 := hx; clear hx
 refine wp_seq_k (fun K4 hK4 => ?_)
 refine Stab.todo_begin (n := 32) (Stab.OkOps.of (by kernel_rfl)) (fun hok => ?_)
 apply Stab.t 0 _ hf.size hok.out rfl
 ·
  intro fr1 w1 hh hd hk K hK
  refine Stab.op_plain (o := _) rfl rfl ?_
  have s3 := Stab.o hh (by kernel_rfl) s3
  clear hd
  have u0 := cell_later hh.ext v0
  go_simp
  exact hK.out _ rfl _ _ (Below.refl _ _) rfl
 refine Stab.mvO (k := 1) s0 hf.size hok.out rfl rfl rfl (.inl rfl) (by kernel_rfl) ?_
 apply Stab.t 2 _ hf.size hok.out rfl
 ·
  intro fr1 w1 hh hd hk K hK
  refine Stab.op_plain (o := _) rfl rfl ?_
  have s16 := Stab.u 0 1 hd hk rfl [] (by kernel_rfl) rfl rfl rfl
  have s17 := Stab.u 1 0 hd hk rfl [] (by kernel_rfl) rfl rfl rfl
  clear hd
  go_simp
  try rw [if_pos (by omega)]
  exact hK.out _ rfl _ _ (Below.refl _ _) rfl
 apply Stab.t 3 _ hf.size hok.out rfl
 ·
  intro fr1 w1 hh hd hk K hK
  refine Stab.op_plain (o := _) rfl rfl ?_
  have s18 := Stab.u 2 0 hd hk rfl [] (by kernel_rfl) rfl rfl rfl
  clear hd
  have u0 := cell_later hh.ext v1
  go_simp
  exact hK.out _ rfl _ _ (Below.refl _ _) rfl
 apply Stab.t 4 _ hf.size hok.out rfl
 ·
  intro fr1 w1 hh hd hk K hK
  refine Stab.op_plain (o := _) rfl rfl ?_
  have s3 := Stab.o hh (by kernel_rfl) s3
  clear hd
  have u0 := cell_later hh.ext v0
  go_simp
  exact hK.out _ rfl _ _ (Below.refl _ _) rfl
 refine Stab.mvO (k := 5) s0 hf.size hok.out rfl rfl rfl (.inl rfl) (by kernel_rfl) ?_
 apply Stab.t 6 _ hf.size hok.out rfl
 ·
  intro fr1 w1 hh hd hk K hK
  refine Stab.op_plain (o := _) rfl rfl ?_
  have s21 := Stab.u 5 0 hd hk rfl [] (by kernel_rfl) rfl rfl rfl
  clear hd
  go_simp
  try simp (disch := omega) only [Fact.wrap_i64, Fact.wrap_u8, Fact.wrap_u32, Fact.wrap_u64]
  exact hK.out _ rfl _ _ (Below.refl _ _) rfl
 apply Stab.t 7 _ hf.size hok.out rfl
 ·
  intro fr1 w1 hh hd hk K hK
  refine Stab.op_plain (o := _) rfl rfl ?_
  have s20 := Stab.u 4 2 hd hk rfl [] (by kernel_rfl) rfl rfl rfl
  have s22 := Stab.u 6 0 hd hk rfl [] (by kernel_rfl) rfl rfl rfl
  clear hd
  go_simp
  try rw [if_pos (by omega)]
  exact hK.out _ rfl _ _ (Below.refl _ _) rfl
 apply Stab.t 8 _ hf.size hok.out rfl
 ·
  intro fr1 w1 hh hd hk K hK
  refine Stab.op_plain (o := _) rfl rfl ?_
  have s23 := Stab.u 7 0 hd hk rfl [] (by kernel_rfl) rfl rfl rfl
  clear hd
  have u0 := cell_later hh.ext v2
  go_simp
  exact hK.out _ rfl _ _ (Below.refl _ _) rfl
 apply Stab.t 9 _ hf.size hok.out rfl
 ·
  intro fr1 w1 hh hd hk K hK
  refine Stab.op_plain (o := _) rfl rfl ?_
  have s4 := Stab.o hh (by kernel_rfl) s4
  clear hd
  have u0 := cell_later hh.ext v3
  go_simp
  exact hK.out _ rfl _ _ (Below.refl _ _) rfl
 refine Stab.mvO (k := 10) s0 hf.size hok.out rfl rfl rfl (.inl rfl) (by kernel_rfl) ?_
 apply Stab.t 11 _ hf.size hok.out rfl
 ·
  intro fr1 w1 hh hd hk K hK
  refine Stab.op_plain (o := _) rfl rfl ?_
  have s25 := Stab.u 9 1 hd hk rfl [] (by kernel_rfl) rfl rfl rfl
  have s26 := Stab.u 10 0 hd hk rfl [] (by kernel_rfl) rfl rfl rfl
  clear hd
  go_simp
  try rw [if_pos (by omega)]
  exact hK.out _ rfl _ _ (Below.refl _ _) rfl
 apply Stab.t 12 _ hf.size hok.out rfl
 ·
  intro fr1 w1 hh hd hk K hK
  refine Stab.op_plain (o := _) rfl rfl ?_
  have s27 := Stab.u 11 0 hd hk rfl [] (by kernel_rfl) rfl rfl rfl
  clear hd
  have u0 := cell_later hh.ext v4
  go_simp
  exact hK.out _ rfl _ _ (Below.refl _ _) rfl
 refine Stab.todo_op (k := 13) (n := 32) (PTwo Y Z) hf.size hok.out rfl (PTwo.stable Y Z) ?_ ?_
 ·
  intro fr1 w1 hh hd hk K hK
  refine Stab.op_plain (o := _) rfl rfl ?_
  have s24 := Stab.u 8 4 hd hk rfl [] (by kernel_rfl) rfl rfl rfl
  have s28 := Stab.u 12 0 hd hk rfl [] (by kernel_rfl) rfl rfl rfl
  clear hd
  go_simp
  exact hK.out _ rfl _ _ ((Below.refl _ _).alloc (Nat.le_refl _) _) ⟨_, rfl, two_cells _ Y Z⟩
 apply Stab.t 14 _ hf.size hok.out rfl
 ·
  intro fr1 w1 hh hd hk K hK
  refine Stab.op_plain (o := _) rfl rfl ?_
  have s19 := Stab.u 3 10 hd hk rfl [] (by kernel_rfl) rfl rfl rfl
  obtain ⟨x29, s29, hp29⟩ := Stab.use (j := 13) (m := 0) hd hk rfl [] (by kernel_rfl) rfl rfl rfl
  obtain ⟨b29, rfl, hc29⟩ := hp29
  clear hd
  go_simp
  go_at_call 68; refine (least68 X Y Z b29 2 w1 hc29).mono ?_; rintro e w2 ⟨rfl, rfl⟩
  rw [hM]
  exact hK.out _ rfl _ _ (Below.refl _ _) rfl
 apply Stab.t 15 _ hf.size hok.out rfl
 ·
  intro fr1 w1 hh hd hk K hK
  refine Stab.op_plain (o := _) rfl rfl ?_
  have s30 := Stab.u 14 0 hd hk rfl [] (by kernel_rfl) rfl rfl rfl
  clear hd
  go_simp
  try simp (disch := omega) only [Fact.wrap_i64, Fact.wrap_u8, Fact.wrap_u32, Fact.wrap_u64]
  try rw [e1]
  exact hK.out _ rfl _ _ (Below.refl _ _) rfl
 refine Stab.mvN (k := 16) (j := 15) (m := 0) hf.size hok.out rfl rfl rfl (.inr rfl) rfl [] (by kernel_rfl) rfl rfl rfl ?_
 refine Stab.todo_facts (n := 32) (by kernel_rfl) hf.size hok.out rfl (fun fr1 w1 hh hg => ?_)
 clear s6; have s6 := Stab.e 16 0 hg rfl rfl rfl rfl
 have hf1 : Fact.Fr 32 fr1 := ⟨hh.size.trans hf.size, hh.defers.trans hf.defers⟩
 have hx := hh.ext
 clear hg hh hf hok s0 s3 s4 s11
 have hf := hf1; clear hf1
 refine Fact.then_normal ?_
 refine hK4 _ _ ?_
 refine wp_ret ?_
 exact Fact.ret1 rfl hf s6 ⟨rfl, hx1.trans (hx.mono hx1.size)⟩
theorem next67 (q : ByteArray) (c i gq gc gr gn : Nat) (r : Nat → Nat) (vr vn : Value) (hi : i < q.size) (hq9 : q.size ≤ 900) (hr9 : ∀ j, j ≤ q.size → r j ≤ 100000) (w : World) (hq0 : w.cell? ⟨gq, 0, none⟩ = some (.string q)) (hc0 : w.cell? ⟨gc, 0, none⟩ = some (.int .u8 c)) (hr0 : w.cell? ⟨gr, 0, none⟩ = some vr) (hn0 : w.cell? ⟨gn, 0, none⟩ = some vn) (hrd : Rd w vr (q.size + 1) r) (hnd : Rd w vn (i + 1) (nx q c r)) (N : Nat) (hN : nx q c r (i + 1) = N) : Calls Try.prog 67 #[.int .i64 i, .pointer (some ⟨gq, 0, none⟩), .pointer (some ⟨gc, 0, none⟩), .pointer (some ⟨gr, 0, none⟩), .pointer (some ⟨gn, 0, none⟩)] w fun e w1 => e = .returned (.int .i64 (N : Int)) ∧ Below w.heap.size w w1 := by
  by_cases heq : at_ q i = c
  · exact next67e q c i gq gc gr gn r vr vn hi hq9 hr9 w hq0 hc0 hr0 hn0 hrd hnd N hN heq
  · exact next67n q c i gq gc gr gn r vr vn hi hq9 hr9 w hq0 hc0 hr0 hn0 hrd hnd N hN heq

end Lv
end Go.Proofs.Ytfgfichkcckhiaa
