/- Lev: the document's automaton: Is, Can, Dist, state. -/
import Derived.Test.YtfgfichkcckhiaaLRefP
import Derived.Test.YtfgfichkcckhiaaTail
namespace Go.Proofs.Ytfgfichkcckhiaa
open Go.RowKit
set_option linter.unusedSimpArgs false
set_option linter.unusedVariables false
set_option linter.unnecessarySimpa false
namespace Lv
theorem le_more {S : ByteArray} {k i : Nat} (h : ∀ j, j < i → at_ S j ≤ k + 1) (h2 : at_ S i ≤ k + 1) : ∀ j, j < i + 1 → at_ S j ≤ k + 1 := fun j hj => by
  rcases Nat.lt_or_ge j i with h9 | h9
  · exact h j h9
  · obtain rfl : j = i := by omega
    exact h2
theorem lt_more {S : ByteArray} {k i : Nat} (h : ∀ j, j < i → k < at_ S j) (h2 : k < at_ S i) : ∀ j, j < i + 1 → k < at_ S j := fun j hj => by
  rcases Nat.lt_or_ge j i with h9 | h9
  · exact h j h9
  · obtain rfl : j = i := by omega
    exact h2
set_option maxHeartbeats 4000000 in
set_option maxRecDepth 100000 in
theorem ris36a (q : ByteArray) (k : Nat) (hq0 : q.size ≤ 255) (hk3 : k ≤ 3) (S : ByteArray) (hs : S.size ≠ q.size + 1) (w : World) : Calls Try.prog 36 #[.agg #[.string q, .int .i64 k], .string S] w fun e w1 => e = .returned (.bool (okS q k S)) ∧ Below w.heap.size w w1 := by
 refine calls_of_wp Try.func36 rfl ?_
 refine Fact.enter (n := 27) (by kernel_rfl) (fun fr hf hT => ?_)
 have s0 := hT 0 _ rfl
 have s1 := hT 1 _ rfl
 clear hT
 obtain ⟨W0, hW0⟩ : ∃ W0, w.alloc (.cells #[.string q, .int .i64 k] 31) = W0 := ⟨_, rfl⟩
 obtain ⟨x0, x1, hb0⟩ := auto_cells w q k W0 hW0
 refine wp_seq_k (fun K1 hK1 => ?_)
 refine Fact.region ?_
 refine Fact.p rfl fun K hK => ?_
 go_simp
 refine hK.out _ _ ?_; clear hK K
 refine Fact.p rfl fun K hK => ?_
 go_simp
 refine hK.out _ _ ?_; clear hK K
 refine Fact.nil ?_
 refine Fact.q hf (by simp only [Fact.G]) rfl fun fr1 hf1 hT => ?_
 have hKp : _ ∧ _ ∧ _ := ⟨hT 1, hT 2, hT 4⟩
 simp only [Fact.G, Nat.reduceEqDiff, Nat.reduceLT, hf.size, reduceIte, s1] at hKp
 clear hT hf s0 s1
 obtain ⟨s1, s2, s4⟩ := hKp
 have hf := hf1; clear hf1
 refine Fact.nx (hK1 _ _ ?_)
 try rw [hW0]
 clear hW0
 refine wp_seq_k (fun K2 hK2 => ?_)
 refine wp_seq_k (fun K3 hK3 => ?_)
 refine Fact.region ?_
 have b6 := hf.l 6 rfl
 have b7 := hf.l 7 rfl
 have b8 := hf.l 8 rfl
 have b9 := hf.l 9 rfl
 have b10 := hf.l 10 rfl
 have b11 := hf.l 11 rfl
 refine Fact.p rfl fun K hK => ?_
 go_simp
 refine hK.out _ _ ?_; clear hK K
 refine Fact.p rfl fun K hK => ?_
 go_simp
 refine hK.out _ _ ?_; clear hK K
 refine Fact.p rfl fun K hK => ?_
 go_simp
 refine hK.out _ _ ?_; clear hK K
 refine Fact.p rfl fun K hK => ?_
 go_simp
 refine hK.out _ _ ?_; clear hK K
 refine Fact.p rfl fun K hK => ?_
 go_simp
 refine hK.out _ _ ?_; clear hK K
 refine Fact.p rfl fun K hK => ?_
 go_simp
 try simp (disch := omega) only [Fact.wrap_i64, Fact.wrap_u8, Fact.wrap_u32, Fact.wrap_u64]
 refine hK.out _ _ ?_; clear hK K
 refine Fact.p rfl fun K hK => ?_
 go_simp
 refine hK.out _ _ ?_; clear hK K
 refine Fact.nil ?_
 refine Fact.q hf (by simp only [Fact.G]) rfl fun fr1 hf1 hT => ?_
 have hKp : _ ∧ _ ∧ _ ∧ _ := ⟨hT 1, hT 2, hT 4, hT 12⟩
 simp only [Fact.G, Nat.reduceEqDiff, Nat.reduceLT, hf.size, reduceIte, s1, s2, s4] at hKp
 clear hT hf s1 s2 s4 b6 b7 b8 b9 b10 b11
 obtain ⟨s1, s2, s4, s12⟩ := hKp
 have hf := hf1; clear hf1
 refine Fact.nx (hK3 _ _ ?_)
 have q1 : ((S.size : Int) != (q.size : Int) + 1) = true := by simp; omega
 try simp only [q1] at s12
 refine Fact.cond_t s12 ?_
 refine wp_seq_k (fun K4 hK4 => ?_)
 refine Fact.region ?_
 refine Fact.p rfl fun K hK => ?_
 go_simp
 refine hK.out _ _ ?_; clear hK K
 refine Fact.nil ?_
 refine Fact.q hf (by simp only [Fact.G]) rfl fun fr1 hf1 hT => ?_
 have hKp : _ ∧ _ ∧ _ := ⟨hT 1, hT 2, hT 4⟩
 simp only [Fact.G, Nat.reduceEqDiff, Nat.reduceLT, hf.size, reduceIte, s1, s2] at hKp
 clear hT hf s1 s2 s4 s12
 obtain ⟨s1, s2, s4⟩ := hKp
 have hf := hf1; clear hf1
 refine Fact.nx (hK4 _ _ ?_)
 refine wp_ret ?_
 refine Fact.then_ret ?_
 exact Fact.ret1 rfl hf s4 ⟨by rw [okS_no hs], hb0⟩
set_option maxHeartbeats 4000000 in
set_option maxRecDepth 100000 in
theorem ris36b (q : ByteArray) (k : Nat) (hq0 : q.size ≤ 255) (hk3 : k ≤ 3) (S : ByteArray) (hs : S.size = q.size + 1) (w : World) : Calls Try.prog 36 #[.agg #[.string q, .int .i64 k], .string S] w fun e w1 => e = .returned (.bool (okS q k S)) ∧ Below w.heap.size w w1 := by
 refine calls_of_wp Try.func36 rfl ?_
 refine Fact.enter (n := 27) (by kernel_rfl) (fun fr hf hT => ?_)
 have s0 := hT 0 _ rfl
 have s1 := hT 1 _ rfl
 clear hT
 obtain ⟨W0, hW0⟩ : ∃ W0, w.alloc (.cells #[.string q, .int .i64 k] 31) = W0 := ⟨_, rfl⟩
 obtain ⟨x0, x1, hb0⟩ := auto_cells w q k W0 hW0
 refine wp_seq_k (fun K1 hK1 => ?_)
 refine Fact.region ?_
 refine Fact.p rfl fun K hK => ?_
 go_simp
 refine hK.out _ _ ?_; clear hK K
 refine Fact.p rfl fun K hK => ?_
 go_simp
 refine hK.out _ _ ?_; clear hK K
 refine Fact.nil ?_
 refine Fact.q hf (by simp only [Fact.G]) rfl fun fr1 hf1 hT => ?_
 have hKp : _ ∧ _ ∧ _ := ⟨hT 1, hT 2, hT 4⟩
 simp only [Fact.G, Nat.reduceEqDiff, Nat.reduceLT, hf.size, reduceIte, s1] at hKp
 clear hT hf s0 s1
 obtain ⟨s1, s2, s4⟩ := hKp
 have hf := hf1; clear hf1
 refine Fact.nx (hK1 _ _ ?_)
 try rw [hW0]
 clear hW0
 refine wp_seq_k (fun K2 hK2 => ?_)
 refine wp_seq_k (fun K3 hK3 => ?_)
 refine Fact.region ?_
 have b6 := hf.l 6 rfl
 have b7 := hf.l 7 rfl
 have b8 := hf.l 8 rfl
 have b9 := hf.l 9 rfl
 have b10 := hf.l 10 rfl
 have b11 := hf.l 11 rfl
 refine Fact.p rfl fun K hK => ?_
 go_simp
 refine hK.out _ _ ?_; clear hK K
 refine Fact.p rfl fun K hK => ?_
 go_simp
 refine hK.out _ _ ?_; clear hK K
 refine Fact.p rfl fun K hK => ?_
 go_simp
 refine hK.out _ _ ?_; clear hK K
 refine Fact.p rfl fun K hK => ?_
 go_simp
 refine hK.out _ _ ?_; clear hK K
 refine Fact.p rfl fun K hK => ?_
 go_simp
 refine hK.out _ _ ?_; clear hK K
 refine Fact.p rfl fun K hK => ?_
 go_simp
 try simp (disch := omega) only [Fact.wrap_i64, Fact.wrap_u8, Fact.wrap_u32, Fact.wrap_u64]
 refine hK.out _ _ ?_; clear hK K
 refine Fact.p rfl fun K hK => ?_
 go_simp
 refine hK.out _ _ ?_; clear hK K
 refine Fact.nil ?_
 refine Fact.q hf (by simp only [Fact.G]) rfl fun fr1 hf1 hT => ?_
 have hKp : _ ∧ _ ∧ _ ∧ _ := ⟨hT 1, hT 2, hT 4, hT 12⟩
 simp only [Fact.G, Nat.reduceEqDiff, Nat.reduceLT, hf.size, reduceIte, s1, s2, s4] at hKp
 clear hT hf s1 s2 s4 b6 b7 b8 b9 b10 b11
 obtain ⟨s1, s2, s4, s12⟩ := hKp
 have hf := hf1; clear hf1
 refine Fact.nx (hK3 _ _ ?_)
 have q1 : ((S.size : Int) != (q.size : Int) + 1) = false := by rw [hs]; simp
 try simp only [q1] at s12
 refine Fact.cond_f s12 ?_
 refine wp_skip ?_
 refine Fact.nx (hK2 _ _ ?_)
 refine wp_seq_k (fun K4 hK4 => ?_)
 refine wp_seq_k (fun K5 hK5 => ?_)
 refine Fact.region ?_
 refine Fact.p rfl fun K hK => ?_
 go_simp
 refine hK.out _ _ ?_; clear hK K
 refine Fact.nil ?_
 refine Fact.q hf (by simp only [Fact.G]) rfl fun fr1 hf1 hT => ?_
 have hKp : _ ∧ _ ∧ _ ∧ _ := ⟨hT 1, hT 2, hT 4, hT 5⟩
 simp only [Fact.G, Nat.reduceEqDiff, Nat.reduceLT, hf.size, reduceIte, s1, s2, s4] at hKp
 clear hT hf s1 s2 s4 s12
 obtain ⟨s1, s2, s4, s5⟩ := hKp
 have hf := hf1; clear hf1
 refine Fact.nx (hK5 _ _ ?_)
 refine wp_block ?_
 refine wp_loop_ghost (fun gk fr wr => ∃ i : Nat, gk = S.size - i ∧ i ≤ S.size ∧ (∀ j, j < i → at_ S j ≤ k + 1) ∧ Fact.Fr 27 fr ∧ fr.tmps[1]? = some (.string S) ∧ fr.tmps[2]? = some (.pointer (some ⟨w.heap.size, 0, none⟩)) ∧ fr.tmps[5]? = some (.int .i64 i) ∧ Below W0.heap.size W0 wr) (S.size) ?_ ?_
 · (
 exact ⟨0, rfl, Nat.zero_le _, fun j hj => absurd hj (Nat.not_lt_zero j), hf, s1, s2, s5, Below.refl _ _⟩)
 · (
 clear hf s1 s2 s4 s5
 rintro gk fr wr ⟨i, hk, hi, hall, hf, s1, s2, s5, hb⟩
 have HK := Lib.hid hk; have HALL := Lib.hid hall; clear hk hall
 have y1 := cell_later hb x1
 refine wp_seq_k (fun K6 hK6 => ?_)
 refine wp_seq_k (fun K7 hK7 => ?_)
 refine Fact.region ?_
 have b13 := hf.l 13 rfl
 have b14 := hf.l 14 rfl
 have b15 := hf.l 15 rfl
 refine Fact.p rfl fun K hK => ?_
 go_simp
 refine hK.out _ _ ?_; clear hK K
 refine Fact.p rfl fun K hK => ?_
 go_simp
 refine hK.out _ _ ?_; clear hK K
 refine Fact.p rfl fun K hK => ?_
 go_simp
 refine hK.out _ _ ?_; clear hK K
 refine Fact.p rfl fun K hK => ?_
 go_simp
 refine hK.out _ _ ?_; clear hK K
 refine Fact.nil ?_
 refine Fact.q hf (by simp only [Fact.G]) rfl fun fr1 hf1 hT => ?_
 have hKp : _ ∧ _ ∧ _ ∧ _ ∧ _ ∧ _ ∧ _ := ⟨hT 1, hT 2, hT 5, hT 13, hT 14, hT 15, hT 16⟩
 simp only [Fact.G, Nat.reduceEqDiff, Nat.reduceLT, hf.size, reduceIte, s1, s2, s5] at hKp
 clear hT hf s1 s2 s5 b13 b14 b15
 obtain ⟨s1, s2, s5, s13, s14, s15, s16⟩ := hKp
 have hf := hf1; clear hf1
 refine Fact.nx (hK7 _ _ ?_)
 refine Fact.cond_s s16 (fun hq => ?_) (fun hq => ?_)
 · (
 have hlt : i < S.size := by have h9 := of_decide_eq_true hq; omega
 have hsl := at_lt S i
 have hatS : ∀ (j : Nat) (h : j < S.size), S[j].toNat = at_ S j := fun j h => (at_get h).symm
 have e3 : IntKind.i64.wrap (at_ S i : Int) = (at_ S i : Int) := Fact.wrap_i64 (by omega) (by omega)
 refine wp_skip ?_
 refine Fact.nx (hK6 _ _ ?_)
 refine wp_seq_k (fun K8 hK8 => ?_)
 refine wp_block ?_
 refine wp_seq_k (fun K9 hK9 => ?_)
 refine Stab.todo_begin (n := 27) (Stab.OkOps.of (by kernel_rfl)) (fun hok => ?_)
 refine Stab.mvO (k := 0) s1 hf.size hok.out rfl rfl rfl (.inl rfl) (by kernel_rfl) ?_
 refine Stab.mvO (k := 1) s5 hf.size hok.out rfl rfl rfl (.inl rfl) (by kernel_rfl) ?_
 apply Stab.t 2 _ hf.size hok.out rfl
 · (
 intro fr1 w1 hh hd hk K hK
 refine Stab.op_plain (o := _) rfl rfl ?_
 have s19 := Stab.u 0 1 hd hk rfl [] (by kernel_rfl) rfl rfl rfl
 have s20 := Stab.u 1 0 hd hk rfl [] (by kernel_rfl) rfl rfl rfl
 clear hd
 go_simp
 try rw [if_pos (by omega)]
 exact hK.out _ rfl _ _ (Below.refl _ _) rfl)
 apply Stab.t 3 _ hf.size hok.out rfl
 · (
 intro fr1 w1 hh hd hk K hK
 refine Stab.op_plain (o := _) rfl rfl ?_
 have s21 := Stab.u 2 0 hd hk rfl [] (by kernel_rfl) rfl rfl rfl
 clear hd
 go_simp
 exact hK.out _ rfl _ _ (Below.refl _ _) rfl)
 apply Stab.t 4 _ hf.size hok.out rfl
 · (
 intro fr1 w1 hh hd hk K hK
 refine Stab.op_plain (o := _) rfl rfl ?_
 have s2 := Stab.o hh (by kernel_rfl) s2
 clear hd
 go_simp
 exact hK.out _ rfl _ _ (Below.refl _ _) rfl)
 apply Stab.t 5 _ hf.size hok.out rfl
 · (
 intro fr1 w1 hh hd hk K hK
 refine Stab.op_plain (o := _) rfl rfl ?_
 have s23 := Stab.u 4 0 hd hk rfl [] (by kernel_rfl) rfl rfl rfl
 clear hd
 have u1 := cell_later hh.ext y1
 go_simp
 exact hK.out _ rfl _ _ (Below.refl _ _) rfl)
 apply Stab.t 6 _ hf.size hok.out rfl
 · (
 intro fr1 w1 hh hd hk K hK
 refine Stab.op_plain (o := _) rfl rfl ?_
 have s24 := Stab.u 5 0 hd hk rfl [] (by kernel_rfl) rfl rfl rfl
 clear hd
 go_simp
 try simp (disch := omega) only [Fact.wrap_i64, Fact.wrap_u8, Fact.wrap_u32, Fact.wrap_u64]
 exact hK.out _ rfl _ _ (Below.refl _ _) rfl)
 apply Stab.t 7 _ hf.size hok.out rfl
 · (
 intro fr1 w1 hh hd hk K hK
 refine Stab.op_plain (o := _) rfl rfl ?_
 have s22 := Stab.u 3 3 hd hk rfl [] (by kernel_rfl) rfl rfl rfl
 have s25 := Stab.u 6 0 hd hk rfl [] (by kernel_rfl) rfl rfl rfl
 clear hd
 go_simp
 exact hK.out _ rfl _ _ (Below.refl _ _) rfl)
 refine Stab.todo_facts (n := 27) (by kernel_rfl) hf.size hok.out rfl (fun fr1 w1 hh hg => ?_)
 replace s1 := Stab.o hh (by kernel_rfl) s1
 replace s2 := Stab.o hh (by kernel_rfl) s2
 replace s5 := Stab.o hh (by kernel_rfl) s5
 replace s13 := Stab.o hh (by kernel_rfl) s13
 replace s14 := Stab.o hh (by kernel_rfl) s14
 replace s15 := Stab.o hh (by kernel_rfl) s15
 replace s16 := Stab.o hh (by kernel_rfl) s16
 have s19 := Stab.e 0 7 hg rfl rfl rfl rfl
 have s20 := Stab.e 1 6 hg rfl rfl rfl rfl
 have s21 := Stab.e 2 5 hg rfl rfl rfl rfl
 have s22 := Stab.e 3 4 hg rfl rfl rfl rfl
 have s23 := Stab.e 4 3 hg rfl rfl rfl rfl
 have s24 := Stab.e 5 2 hg rfl rfl rfl rfl
 have s25 := Stab.e 6 1 hg rfl rfl rfl rfl
 have s26 := Stab.e 7 0 hg rfl rfl rfl rfl
 have hf1 : Fact.Fr 27 fr1 := ⟨hh.size.trans hf.size, hh.defers.trans hf.defers⟩
 have hx := hh.ext
 clear hg hh hf hok
 have hf := hf1; clear hf1
 refine Fact.nx (hK9 _ _ ?_)
 refine Fact.cond_s s26 (fun hq2 => ?_) (fun hq2 => ?_)
 · (
 have hgt : k + 1 < at_ S i := by have h9 := of_decide_eq_true hq2; omega
 refine wp_seq_k (fun K10 hK10 => ?_)
 refine Fact.region ?_
 refine Fact.p rfl fun K hK => ?_
 go_simp
 refine hK.out _ _ ?_; clear hK K
 refine Fact.nil ?_
 refine Fact.q hf (by simp only [Fact.G]) rfl fun fr1 hf1 hT => ?_
 have hKp : _ ∧ _ ∧ _ ∧ _ ∧ _ ∧ _ ∧ _ ∧ _ ∧ _ ∧ _ ∧ _ ∧ _ ∧ _ ∧ _ ∧ _ ∧ _ := ⟨hT 1, hT 2, hT 4, hT 5, hT 13, hT 14, hT 15, hT 16, hT 19, hT 20, hT 21, hT 22, hT 23, hT 24, hT 25, hT 26⟩
 simp only [Fact.G, Nat.reduceEqDiff, Nat.reduceLT, hf.size, reduceIte, s1, s2, s5, s13, s14, s15, s16, s19, s20, s21, s22, s23, s24, s25, s26] at hKp
 clear hT hf s1 s2 s5 s13 s14 s15 s16 s19 s20 s21 s22 s23 s24 s25 s26
 obtain ⟨s1, s2, s4, s5, s13, s14, s15, s16, s19, s20, s21, s22, s23, s24, s25, s26⟩ := hKp
 have hf := hf1; clear hf1
 refine Fact.nx (hK10 _ _ ?_)
 refine wp_ret ?_
 refine Fact.block_ret ?_
 refine Fact.then_ret ?_
 refine Fact.then_ret ?_
 refine Fact.block_ret ?_
 refine Fact.then_ret ?_
 exact Fact.ret1 rfl hf s4 ⟨by rw [okS_high hlt hgt], hb0.trans ((hb.trans (hx.mono hb.size)).mono hb0.size)⟩)
 · (
 have hle : at_ S i ≤ k + 1 := by have h9 := of_decide_eq_false hq2; omega
 refine wp_skip ?_
 refine Fact.block_normal ?_
 refine Fact.nx (hK8 _ _ ?_)
 refine Fact.region ?_
 have b17 := hf.l 17 rfl
 have b18 := hf.l 18 rfl
 refine Fact.p rfl fun K hK => ?_
 go_simp
 refine hK.out _ _ ?_; clear hK K
 refine Fact.p rfl fun K hK => ?_
 go_simp
 try simp (disch := omega) only [Fact.wrap_i64, Fact.wrap_u8, Fact.wrap_u32, Fact.wrap_u64]
 refine hK.out _ _ ?_; clear hK K
 refine Fact.p rfl fun K hK => ?_
 go_simp
 refine hK.out _ _ ?_; clear hK K
 refine Fact.nil ?_
 refine Fact.q hf (by simp only [Fact.G]) rfl fun fr1 hf1 hT => ?_
 have hKp : _ ∧ _ ∧ _ ∧ _ ∧ _ ∧ _ ∧ _ ∧ _ ∧ _ ∧ _ ∧ _ ∧ _ ∧ _ ∧ _ ∧ _ ∧ _ ∧ _ := ⟨hT 1, hT 2, hT 5, hT 13, hT 14, hT 15, hT 16, hT 17, hT 18, hT 19, hT 20, hT 21, hT 22, hT 23, hT 24, hT 25, hT 26⟩
 simp only [Fact.G, Nat.reduceEqDiff, Nat.reduceLT, hf.size, reduceIte, s1, s2, s13, s14, s15, s16, s19, s20, s21, s22, s23, s24, s25, s26] at hKp
 clear hT hf s1 s2 s5 s13 s14 s15 s16 s19 s20 s21 s22 s23 s24 s25 s26 b17 b18
 obtain ⟨s1, s2, s5, s13, s14, s15, s16, s17, s18, s19, s20, s21, s22, s23, s24, s25, s26⟩ := hKp
 have hf := hf1; clear hf1
 refine Fact.then_normal ?_
 exact ⟨_, by have := HK.out; omega, i + 1, rfl, by omega, le_more HALL.out hle, hf, s1, s2, by rw [s5]; rfl, hb.trans (hx.mono hb.size)⟩))
 · (
 have hie : i = S.size := by have h9 := of_decide_eq_false hq; omega
 subst hie
 refine wp_exit ?_
 refine Fact.then_exit ?_
 refine Fact.then_exit ?_
 refine Fact.block_exit ?_
 refine Fact.nx (hK4 _ _ ?_)
 refine wp_seq_k (fun K11 hK11 => ?_)
 refine Fact.region ?_
 refine Fact.p rfl fun K hK => ?_
 go_simp
 refine hK.out _ _ ?_; clear hK K
 refine Fact.nil ?_
 refine Fact.q hf (by simp only [Fact.G]) rfl fun fr1 hf1 hT => ?_
 have hKp := hT 4
 simp only [Fact.G, Nat.reduceEqDiff, Nat.reduceLT, hf.size, reduceIte] at hKp
 clear hT hf s1 s2 s5 s13 s14 s15 s16
 have s4 := hKp; clear hKp
 have hf := hf1; clear hf1
 refine Fact.nx (hK11 _ _ ?_)
 refine wp_ret ?_
 exact Fact.ret1 rfl hf s4 ⟨by rw [okS_of hs HALL.out], hb0.trans (hb.mono hb0.size)⟩))
theorem ris36 (q : ByteArray) (k : Nat) (hq0 : q.size ≤ 255) (hk3 : k ≤ 3) (S : ByteArray) (w : World) : Calls Try.prog 36 #[.agg #[.string q, .int .i64 k], .string S] w fun e w1 => e = .returned (.bool (okS q k S)) ∧ Below w.heap.size w w1 := by
  by_cases hs : S.size = q.size + 1
  · exact ris36b q k hq0 hk3 S hs w
  · exact ris36a q k hq0 hk3 S hs w

set_option maxHeartbeats 4000000 in
set_option maxRecDepth 100000 in
theorem rcan33 (q : ByteArray) (k : Nat) (hq0 : q.size ≤ 255) (hk3 : k ≤ 3) (S : ByteArray) (w : World) : Calls Try.prog 33 #[.agg #[.string q, .int .i64 k], .string S] w fun e w1 => e = .returned (.bool (canS q k S)) ∧ Below w.heap.size w w1 := by
 refine calls_of_wp Try.func33 rfl ?_
 refine Fact.enter (n := 24) (by kernel_rfl) (fun fr hf hT => ?_)
 have s0 := hT 0 _ rfl
 have s1 := hT 1 _ rfl
 clear hT
 obtain ⟨W0, hW0⟩ : ∃ W0, w.alloc (.cells #[.string q, .int .i64 k] 31) = W0 := ⟨_, rfl⟩
 obtain ⟨x0, x1, hb0⟩ := auto_cells w q k W0 hW0
 refine wp_seq_k (fun K1 hK1 => ?_)
 refine Fact.region ?_
 refine Fact.p rfl fun K hK => ?_
 go_simp
 refine hK.out _ _ ?_; clear hK K
 refine Fact.p rfl fun K hK => ?_
 go_simp
 refine hK.out _ _ ?_; clear hK K
 refine Fact.nil ?_
 refine Fact.q hf (by simp only [Fact.G]) rfl fun fr1 hf1 hT => ?_
 have hKp : _ ∧ _ ∧ _ := ⟨hT 1, hT 2, hT 4⟩
 simp only [Fact.G, Nat.reduceEqDiff, Nat.reduceLT, hf.size, reduceIte, s1] at hKp
 clear hT hf s0 s1
 obtain ⟨s1, s2, s4⟩ := hKp
 have hf := hf1; clear hf1
 refine Fact.nx (hK1 _ _ ?_)
 try rw [hW0]
 clear hW0
 refine wp_seq_k (fun K2 hK2 => ?_)
 refine wp_seq_k (fun K3 hK3 => ?_)
 refine Fact.region ?_
 refine Fact.p rfl fun K hK => ?_
 go_simp
 refine hK.out _ _ ?_; clear hK K
 refine Fact.nil ?_
 refine Fact.q hf (by simp only [Fact.G]) rfl fun fr1 hf1 hT => ?_
 have hKp : _ ∧ _ ∧ _ ∧ _ := ⟨hT 1, hT 2, hT 4, hT 5⟩
 simp only [Fact.G, Nat.reduceEqDiff, Nat.reduceLT, hf.size, reduceIte, s1, s2, s4] at hKp
 clear hT hf s1 s2 s4
 obtain ⟨s1, s2, s4, s5⟩ := hKp
 have hf := hf1; clear hf1
 refine Fact.nx (hK3 _ _ ?_)
 refine wp_block ?_
 refine wp_loop_ghost (fun gk fr wr => ∃ i : Nat, gk = S.size - i ∧ i ≤ S.size ∧ (∀ j, j < i → k < at_ S j) ∧ Fact.Fr 24 fr ∧ fr.tmps[1]? = some (.string S) ∧ fr.tmps[2]? = some (.pointer (some ⟨w.heap.size, 0, none⟩)) ∧ fr.tmps[5]? = some (.int .i64 i) ∧ Below W0.heap.size W0 wr) (S.size) ?_ ?_
 · (
 exact ⟨0, rfl, Nat.zero_le _, fun j hj => absurd hj (Nat.not_lt_zero j), hf, s1, s2, s5, Below.refl _ _⟩)
 · (
 clear hf s1 s2 s4 s5
 rintro gk fr wr ⟨i, hk, hi, hall, hf, s1, s2, s5, hb⟩
 have HK := Lib.hid hk; have HALL := Lib.hid hall; clear hk hall
 have y0 := cell_later hb x0; have y1 := cell_later hb x1
 have hcase : ¬ i < S.size ∨ i < S.size := by omega
 rcases hcase with hlt | hlt
 · (
 have q1 : decide ((i : Int) < (S.size : Int)) = false := decide_eq_false (by omega)
 have hie : i = S.size := by omega
 refine wp_seq_k (fun K4 hK4 => ?_)
 refine wp_seq_k (fun K5 hK5 => ?_)
 refine Fact.region ?_
 have b6 := hf.l 6 rfl
 have b7 := hf.l 7 rfl
 have b8 := hf.l 8 rfl
 have b9 := hf.l 9 rfl
 have b10 := hf.l 10 rfl
 have b11 := hf.l 11 rfl
 have b12 := hf.l 12 rfl
 have b13 := hf.l 13 rfl
 refine Fact.p rfl fun K hK => ?_
 go_simp
 refine hK.out _ _ ?_; clear hK K
 refine Fact.p rfl fun K hK => ?_
 go_simp
 refine hK.out _ _ ?_; clear hK K
 refine Fact.p rfl fun K hK => ?_
 go_simp
 refine hK.out _ _ ?_; clear hK K
 refine Fact.p rfl fun K hK => ?_
 go_simp
 refine hK.out _ _ ?_; clear hK K
 refine Fact.p rfl fun K hK => ?_
 go_simp
 refine hK.out _ _ ?_; clear hK K
 refine Fact.op_skip (g := 4) (d := 10) (b := true) rfl rfl rfl ?_ ?_
 · (
 simp only [Fact.G, Nat.reduceEqDiff, Nat.reduceLT, reduceIte, hf.size, Bool.not_true, Bool.not_false, q1])
 refine Fact.op_skip (g := 4) (d := 10) (b := true) rfl rfl rfl ?_ ?_
 · (
 simp only [Fact.G, Nat.reduceEqDiff, Nat.reduceLT, reduceIte, hf.size, Bool.not_true, Bool.not_false, q1])
 refine Fact.op_skip (g := 4) (d := 10) (b := true) rfl rfl rfl ?_ ?_
 · (
 simp only [Fact.G, Nat.reduceEqDiff, Nat.reduceLT, reduceIte, hf.size, Bool.not_true, Bool.not_false, q1])
 refine Fact.p rfl fun K hK => ?_
 go_simp
 refine hK.out _ _ ?_; clear hK K
 refine Fact.nil ?_
 refine Fact.q hf (by simp only [Fact.G]) rfl fun fr1 hf1 hT => ?_
 have hKp : _ ∧ _ ∧ _ ∧ _ ∧ _ ∧ _ ∧ _ ∧ _ ∧ _ ∧ _ ∧ _ ∧ _ := ⟨hT 1, hT 2, hT 5, hT 6, hT 7, hT 8, hT 9, hT 10, hT 11, hT 12, hT 13, hT 14⟩
 simp only [Fact.G, Nat.reduceEqDiff, Nat.reduceLT, hf.size, reduceIte, s1, s2, s5] at hKp
 clear hT hf s1 s2 s5 b6 b7 b8 b9 b10 b11 b12 b13
 obtain ⟨s1, s2, s5, s6, s7, s8, s9, s10, s11, s12, s13, s14⟩ := hKp
 have hf := hf1; clear hf1
 refine Fact.nx (hK5 _ _ ?_)
 try simp only [q1] at s14
 refine Fact.cond_f s14 ?_
 refine wp_exit ?_
 refine Fact.then_exit ?_
 refine Fact.then_exit ?_
 refine Fact.block_exit ?_
 refine Fact.nx (hK2 _ _ ?_)
 refine wp_seq_k (fun K6 hK6 => ?_)
 refine Fact.region ?_
 refine Fact.p rfl fun K hK => ?_
 go_simp
 refine hK.out _ _ ?_; clear hK K
 refine Fact.nil ?_
 refine Fact.q hf (by simp only [Fact.G]) rfl fun fr1 hf1 hT => ?_
 have hKp := hT 4
 simp only [Fact.G, Nat.reduceEqDiff, Nat.reduceLT, hf.size, reduceIte] at hKp
 clear hT hf s1 s2 s5 s6 s7 s8 s9 s10 s11 s12 s13 s14
 have s4 := hKp; clear hKp
 have hf := hf1; clear hf1
 refine Fact.nx (hK6 _ _ ?_)
 refine wp_ret ?_
 subst hie
 exact Fact.ret1 rfl hf s4 ⟨by rw [canS_none HALL.out], hb0.trans (hb.mono hb0.size)⟩)
 · (
 have q1 : decide ((i : Int) < (S.size : Int)) = true := decide_eq_true (by omega)
 rcases hok : okS q k S with _ | _
 · (
 refine wp_seq_k (fun K7 hK7 => ?_)
 refine wp_seq_k (fun K8 hK8 => ?_)
 refine Fact.region ?_
 have b6 := hf.l 6 rfl
 have b7 := hf.l 7 rfl
 have b8 := hf.l 8 rfl
 have b9 := hf.l 9 rfl
 have b10 := hf.l 10 rfl
 have b11 := hf.l 11 rfl
 have b12 := hf.l 12 rfl
 have b13 := hf.l 13 rfl
 refine Fact.p rfl fun K hK => ?_
 go_simp
 refine hK.out _ _ ?_; clear hK K
 refine Fact.p rfl fun K hK => ?_
 go_simp
 refine hK.out _ _ ?_; clear hK K
 refine Fact.p rfl fun K hK => ?_
 go_simp
 refine hK.out _ _ ?_; clear hK K
 refine Fact.p rfl fun K hK => ?_
 go_simp
 refine hK.out _ _ ?_; clear hK K
 refine Fact.p rfl fun K hK => ?_
 go_simp
 refine hK.out _ _ ?_; clear hK K
 refine Fact.op_guard (g := 4) (d := 10) (b := true) rfl rfl rfl ?_ (fun K hK => ?_)
 · (
 simp only [Fact.G, Nat.reduceEqDiff, Nat.reduceLT, reduceIte, hf.size, q1])
 go_simp
 refine hK.out _ _ ?_; clear hK K
 refine Fact.op_guard (g := 4) (d := 10) (b := true) rfl rfl rfl ?_ (fun K hK => ?_)
 · (
 simp only [Fact.G, Nat.reduceEqDiff, Nat.reduceLT, reduceIte, hf.size, q1])
 go_simp
 refine hK.out _ _ ?_; clear hK K
 refine Fact.op_guard (g := 4) (d := 10) (b := true) rfl rfl rfl ?_ (fun K hK => ?_)
 · (
 simp only [Fact.G, Nat.reduceEqDiff, Nat.reduceLT, reduceIte, hf.size, q1])
 go_simp
 go_at_call 36; refine (ris36 q k hq0 hk3 S wr).mono ?_; rintro e w3 ⟨rfl, h3⟩
 rw [hok]
 dsimp only
 refine hK.out _ _ ?_; clear hK K
 refine Fact.p rfl fun K hK => ?_
 go_simp
 refine hK.out _ _ ?_; clear hK K
 refine Fact.nil ?_
 refine Fact.q hf (by simp only [Fact.G]) rfl fun fr1 hf1 hT => ?_
 have hKp : _ ∧ _ ∧ _ ∧ _ ∧ _ ∧ _ ∧ _ ∧ _ ∧ _ ∧ _ ∧ _ ∧ _ := ⟨hT 1, hT 2, hT 5, hT 6, hT 7, hT 8, hT 9, hT 10, hT 11, hT 12, hT 13, hT 14⟩
 simp only [Fact.G, Nat.reduceEqDiff, Nat.reduceLT, hf.size, reduceIte, s1, s2, s5] at hKp
 clear hT hf s1 s2 s5 b6 b7 b8 b9 b10 b11 b12 b13
 obtain ⟨s1, s2, s5, s6, s7, s8, s9, s10, s11, s12, s13, s14⟩ := hKp
 have hf := hf1; clear hf1
 refine Fact.nx (hK8 _ _ ?_)
 try simp only [q1] at s14
 refine Fact.cond_f s14 ?_
 refine wp_exit ?_
 refine Fact.then_exit ?_
 refine Fact.then_exit ?_
 refine Fact.block_exit ?_
 refine Fact.nx (hK2 _ _ ?_)
 refine wp_seq_k (fun K9 hK9 => ?_)
 refine Fact.region ?_
 refine Fact.p rfl fun K hK => ?_
 go_simp
 refine hK.out _ _ ?_; clear hK K
 refine Fact.nil ?_
 refine Fact.q hf (by simp only [Fact.G]) rfl fun fr1 hf1 hT => ?_
 have hKp := hT 4
 simp only [Fact.G, Nat.reduceEqDiff, Nat.reduceLT, hf.size, reduceIte] at hKp
 clear hT hf s1 s2 s5 s6 s7 s8 s9 s10 s11 s12 s13 s14
 have s4 := hKp; clear hKp
 have hf := hf1; clear hf1
 refine Fact.nx (hK9 _ _ ?_)
 refine wp_ret ?_
 exact Fact.ret1 rfl hf s4 ⟨by rw [canS_bad hok], hb0.trans ((hb.trans (h3.mono hb.size)).mono hb0.size)⟩)
 · (
 refine wp_seq_k (fun K10 hK10 => ?_)
 refine wp_seq_k (fun K11 hK11 => ?_)
 refine Fact.region ?_
 have b6 := hf.l 6 rfl
 have b7 := hf.l 7 rfl
 have b8 := hf.l 8 rfl
 have b9 := hf.l 9 rfl
 have b10 := hf.l 10 rfl
 have b11 := hf.l 11 rfl
 have b12 := hf.l 12 rfl
 have b13 := hf.l 13 rfl
 refine Fact.p rfl fun K hK => ?_
 go_simp
 refine hK.out _ _ ?_; clear hK K
 refine Fact.p rfl fun K hK => ?_
 go_simp
 refine hK.out _ _ ?_; clear hK K
 refine Fact.p rfl fun K hK => ?_
 go_simp
 refine hK.out _ _ ?_; clear hK K
 refine Fact.p rfl fun K hK => ?_
 go_simp
 refine hK.out _ _ ?_; clear hK K
 refine Fact.p rfl fun K hK => ?_
 go_simp
 refine hK.out _ _ ?_; clear hK K
 refine Fact.op_guard (g := 4) (d := 10) (b := true) rfl rfl rfl ?_ (fun K hK => ?_)
 · (
 simp only [Fact.G, Nat.reduceEqDiff, Nat.reduceLT, reduceIte, hf.size, q1])
 go_simp
 refine hK.out _ _ ?_; clear hK K
 refine Fact.op_guard (g := 4) (d := 10) (b := true) rfl rfl rfl ?_ (fun K hK => ?_)
 · (
 simp only [Fact.G, Nat.reduceEqDiff, Nat.reduceLT, reduceIte, hf.size, q1])
 go_simp
 refine hK.out _ _ ?_; clear hK K
 refine Fact.op_guard (g := 4) (d := 10) (b := true) rfl rfl rfl ?_ (fun K hK => ?_)
 · (
 simp only [Fact.G, Nat.reduceEqDiff, Nat.reduceLT, reduceIte, hf.size, q1])
 go_simp
 go_at_call 36; refine (ris36 q k hq0 hk3 S wr).mono ?_; rintro e w3 ⟨rfl, h3⟩
 rw [hok]
 dsimp only
 refine hK.out _ _ ?_; clear hK K
 refine Fact.p rfl fun K hK => ?_
 go_simp
 refine hK.out _ _ ?_; clear hK K
 refine Fact.nil ?_
 refine Fact.q hf (by simp only [Fact.G]) rfl fun fr1 hf1 hT => ?_
 have hKp : _ ∧ _ ∧ _ ∧ _ ∧ _ ∧ _ ∧ _ ∧ _ ∧ _ ∧ _ ∧ _ ∧ _ := ⟨hT 1, hT 2, hT 5, hT 6, hT 7, hT 8, hT 9, hT 10, hT 11, hT 12, hT 13, hT 14⟩
 simp only [Fact.G, Nat.reduceEqDiff, Nat.reduceLT, hf.size, reduceIte, s1, s2, s5] at hKp
 clear hT hf s1 s2 s5 b6 b7 b8 b9 b10 b11 b12 b13
 obtain ⟨s1, s2, s5, s6, s7, s8, s9, s10, s11, s12, s13, s14⟩ := hKp
 have hf := hf1; clear hf1
 refine Fact.nx (hK11 _ _ ?_)
 try simp only [q1] at s14
 refine Fact.cond_t s14 ?_
 have hsl := at_lt S i
 have y2 := cell_later h3 y1
 have hatS : ∀ (j : Nat) (h : j < S.size), S[j].toNat = at_ S j := fun j h => (at_get h).symm
 have e3 : IntKind.i64.wrap (at_ S i : Int) = (at_ S i : Int) := Fact.wrap_i64 (by omega) (by omega)
 have hsz := okS_size hok
 have hos := hok; clear hok
 refine wp_skip ?_
 refine Fact.nx (hK10 _ _ ?_)
 refine wp_seq_k (fun K12 hK12 => ?_)
 refine wp_block ?_
 refine wp_seq_k (fun K13 hK13 => ?_)
 refine Stab.todo_begin (n := 24) (Stab.OkOps.of (by kernel_rfl)) (fun hok => ?_)
 refine Stab.mvO (k := 0) s1 hf.size hok.out rfl rfl rfl (.inl rfl) (by kernel_rfl) ?_
 refine Stab.mvO (k := 1) s5 hf.size hok.out rfl rfl rfl (.inl rfl) (by kernel_rfl) ?_
 apply Stab.t 2 _ hf.size hok.out rfl
 · (
 intro fr1 w1 hh hd hk K hK
 refine Stab.op_plain (o := _) rfl rfl ?_
 have s17 := Stab.u 0 1 hd hk rfl [] (by kernel_rfl) rfl rfl rfl
 have s18 := Stab.u 1 0 hd hk rfl [] (by kernel_rfl) rfl rfl rfl
 clear hd
 go_simp
 try rw [if_pos (by omega)]
 exact hK.out _ rfl _ _ (Below.refl _ _) rfl)
 apply Stab.t 3 _ hf.size hok.out rfl
 · (
 intro fr1 w1 hh hd hk K hK
 refine Stab.op_plain (o := _) rfl rfl ?_
 have s19 := Stab.u 2 0 hd hk rfl [] (by kernel_rfl) rfl rfl rfl
 clear hd
 go_simp
 exact hK.out _ rfl _ _ (Below.refl _ _) rfl)
 apply Stab.t 4 _ hf.size hok.out rfl
 · (
 intro fr1 w1 hh hd hk K hK
 refine Stab.op_plain (o := _) rfl rfl ?_
 have s2 := Stab.o hh (by kernel_rfl) s2
 clear hd
 go_simp
 exact hK.out _ rfl _ _ (Below.refl _ _) rfl)
 apply Stab.t 5 _ hf.size hok.out rfl
 · (
 intro fr1 w1 hh hd hk K hK
 refine Stab.op_plain (o := _) rfl rfl ?_
 have s21 := Stab.u 4 0 hd hk rfl [] (by kernel_rfl) rfl rfl rfl
 clear hd
 have u1 := cell_later hh.ext y2
 go_simp
 exact hK.out _ rfl _ _ (Below.refl _ _) rfl)
 apply Stab.t 6 _ hf.size hok.out rfl
 · (
 intro fr1 w1 hh hd hk K hK
 refine Stab.op_plain (o := _) rfl rfl ?_
 have s20 := Stab.u 3 2 hd hk rfl [] (by kernel_rfl) rfl rfl rfl
 have s22 := Stab.u 5 0 hd hk rfl [] (by kernel_rfl) rfl rfl rfl
 clear hd
 go_simp
 exact hK.out _ rfl _ _ (Below.refl _ _) rfl)
 refine Stab.todo_facts (n := 24) (by kernel_rfl) hf.size hok.out rfl (fun fr1 w1 hh hg => ?_)
 replace s1 := Stab.o hh (by kernel_rfl) s1
 replace s2 := Stab.o hh (by kernel_rfl) s2
 replace s5 := Stab.o hh (by kernel_rfl) s5
 replace s6 := Stab.o hh (by kernel_rfl) s6
 replace s7 := Stab.o hh (by kernel_rfl) s7
 replace s8 := Stab.o hh (by kernel_rfl) s8
 replace s9 := Stab.o hh (by kernel_rfl) s9
 replace s10 := Stab.o hh (by kernel_rfl) s10
 replace s11 := Stab.o hh (by kernel_rfl) s11
 replace s12 := Stab.o hh (by kernel_rfl) s12
 replace s13 := Stab.o hh (by kernel_rfl) s13
 replace s14 := Stab.o hh (by kernel_rfl) s14
 have s17 := Stab.e 0 6 hg rfl rfl rfl rfl
 have s18 := Stab.e 1 5 hg rfl rfl rfl rfl
 have s19 := Stab.e 2 4 hg rfl rfl rfl rfl
 have s20 := Stab.e 3 3 hg rfl rfl rfl rfl
 have s21 := Stab.e 4 2 hg rfl rfl rfl rfl
 have s22 := Stab.e 5 1 hg rfl rfl rfl rfl
 have s23 := Stab.e 6 0 hg rfl rfl rfl rfl
 have hf1 : Fact.Fr 24 fr1 := ⟨hh.size.trans hf.size, hh.defers.trans hf.defers⟩
 have hx := hh.ext
 clear hg hh hf hok
 have hf := hf1; clear hf1
 refine Fact.nx (hK13 _ _ ?_)
 refine Fact.cond_s s23 (fun hq2 => ?_) (fun hq2 => ?_)
 · (
 have hle : at_ S i ≤ k := by have h9 := of_decide_eq_true hq2; omega
 refine wp_seq_k (fun K14 hK14 => ?_)
 refine Fact.region ?_
 refine Fact.p rfl fun K hK => ?_
 go_simp
 refine hK.out _ _ ?_; clear hK K
 refine Fact.nil ?_
 refine Fact.q hf (by simp only [Fact.G]) rfl fun fr1 hf1 hT => ?_
 have hKp : _ ∧ _ ∧ _ ∧ _ ∧ _ ∧ _ ∧ _ ∧ _ ∧ _ ∧ _ ∧ _ ∧ _ ∧ _ ∧ _ ∧ _ ∧ _ ∧ _ ∧ _ ∧ _ ∧ _ := ⟨hT 1, hT 2, hT 4, hT 5, hT 6, hT 7, hT 8, hT 9, hT 10, hT 11, hT 12, hT 13, hT 14, hT 17, hT 18, hT 19, hT 20, hT 21, hT 22, hT 23⟩
 simp only [Fact.G, Nat.reduceEqDiff, Nat.reduceLT, hf.size, reduceIte, s1, s2, s5, s6, s7, s8, s9, s10, s11, s12, s13, s14, s17, s18, s19, s20, s21, s22, s23] at hKp
 clear hT hf s1 s2 s5 s6 s7 s8 s9 s10 s11 s12 s13 s14 s17 s18 s19 s20 s21 s22 s23
 obtain ⟨s1, s2, s4, s5, s6, s7, s8, s9, s10, s11, s12, s13, s14, s17, s18, s19, s20, s21, s22, s23⟩ := hKp
 have hf := hf1; clear hf1
 refine Fact.nx (hK14 _ _ ?_)
 refine wp_ret ?_
 refine Fact.block_ret ?_
 refine Fact.then_ret ?_
 refine Fact.then_ret ?_
 refine Fact.block_ret ?_
 refine Fact.then_ret ?_
 exact Fact.ret1 rfl hf s4 ⟨by rw [canS_at hos hlt hle], hb0.trans (((hb.trans (h3.mono hb.size)).trans (hx.mono (by have := hb.size; have := h3.size; omega))).mono hb0.size)⟩)
 · (
 have hgt : k < at_ S i := by have h9 := of_decide_eq_false hq2; omega
 refine wp_skip ?_
 refine Fact.block_normal ?_
 refine Fact.nx (hK12 _ _ ?_)
 refine Fact.region ?_
 have b15 := hf.l 15 rfl
 have b16 := hf.l 16 rfl
 refine Fact.p rfl fun K hK => ?_
 go_simp
 refine hK.out _ _ ?_; clear hK K
 refine Fact.p rfl fun K hK => ?_
 go_simp
 try simp (disch := omega) only [Fact.wrap_i64, Fact.wrap_u8, Fact.wrap_u32, Fact.wrap_u64]
 refine hK.out _ _ ?_; clear hK K
 refine Fact.p rfl fun K hK => ?_
 go_simp
 refine hK.out _ _ ?_; clear hK K
 refine Fact.nil ?_
 refine Fact.q hf (by simp only [Fact.G]) rfl fun fr1 hf1 hT => ?_
 have hKp : _ ∧ _ ∧ _ ∧ _ ∧ _ ∧ _ ∧ _ ∧ _ ∧ _ ∧ _ ∧ _ ∧ _ ∧ _ ∧ _ ∧ _ ∧ _ ∧ _ ∧ _ ∧ _ ∧ _ ∧ _ := ⟨hT 1, hT 2, hT 5, hT 6, hT 7, hT 8, hT 9, hT 10, hT 11, hT 12, hT 13, hT 14, hT 15, hT 16, hT 17, hT 18, hT 19, hT 20, hT 21, hT 22, hT 23⟩
 simp only [Fact.G, Nat.reduceEqDiff, Nat.reduceLT, hf.size, reduceIte, s1, s2, s6, s7, s8, s9, s10, s11, s12, s13, s14, s17, s18, s19, s20, s21, s22, s23] at hKp
 clear hT hf s1 s2 s5 s6 s7 s8 s9 s10 s11 s12 s13 s14 s17 s18 s19 s20 s21 s22 s23 b15 b16
 obtain ⟨s1, s2, s5, s6, s7, s8, s9, s10, s11, s12, s13, s14, s15, s16, s17, s18, s19, s20, s21, s22, s23⟩ := hKp
 have hf := hf1; clear hf1
 refine Fact.then_normal ?_
 exact ⟨_, by have := HK.out; omega, i + 1, rfl, by omega, lt_more HALL.out hgt, hf, s1, s2, by rw [s5]; rfl, (hb.trans (h3.mono hb.size)).trans (hx.mono (by have := hb.size; have := h3.size; omega))⟩))))
set_option maxHeartbeats 4000000 in
set_option maxRecDepth 100000 in
theorem rdist31no (q : ByteArray) (k : Nat) (hq0 : q.size ≤ 255) (hk3 : k ≤ 3) (S : ByteArray) (hos : okS q k S = false) (w : World) : Calls Try.prog 31 #[.agg #[.string q, .int .i64 k], .string S] w fun e w1 => e = .returned (.tuple #[.int .i64 (distS q k S : Nat), .bool (isS q k S)]) ∧ Below w.heap.size w w1 := by
 refine calls_of_wp Try.func31 rfl ?_
 refine Fact.enter (n := 27) (by kernel_rfl) (fun fr hf hT => ?_)
 have s0 := hT 0 _ rfl
 have s1 := hT 1 _ rfl
 clear hT
 obtain ⟨W0, hW0⟩ : ∃ W0, w.alloc (.cells #[.string q, .int .i64 k] 31) = W0 := ⟨_, rfl⟩
 obtain ⟨x0, x1, hb0⟩ := auto_cells w q k W0 hW0
 refine wp_seq_k (fun K1 hK1 => ?_)
 refine Fact.region ?_
 refine Fact.p rfl fun K hK => ?_
 go_simp
 refine hK.out _ _ ?_; clear hK K
 refine Fact.p rfl fun K hK => ?_
 go_simp
 refine hK.out _ _ ?_; clear hK K
 refine Fact.p rfl fun K hK => ?_
 go_simp
 refine hK.out _ _ ?_; clear hK K
 refine Fact.nil ?_
 refine Fact.q hf (by simp only [Fact.G]) rfl fun fr1 hf1 hT => ?_
 have hKp : _ ∧ _ ∧ _ ∧ _ := ⟨hT 1, hT 2, hT 4, hT 5⟩
 simp only [Fact.G, Nat.reduceEqDiff, Nat.reduceLT, hf.size, reduceIte, s1] at hKp
 clear hT hf s0 s1
 obtain ⟨s1, s2, s4, s5⟩ := hKp
 have hf := hf1; clear hf1
 refine Fact.nx (hK1 _ _ ?_)
 try rw [hW0]
 clear hW0
 refine wp_seq_k (fun K2 hK2 => ?_)
 refine wp_seq_k (fun K3 hK3 => ?_)
 refine Stab.todo_begin (n := 27) (Stab.OkOps.of (by kernel_rfl)) (fun hok => ?_)
 apply Stab.t 0 _ hf.size hok.out rfl
 · (
 intro fr1 w1 hh hd hk K hK
 refine Stab.op_plain (o := _) rfl rfl ?_
 have s2 := Stab.o hh (by kernel_rfl) s2
 clear hd
 have u0 := cell_later hh.ext x0; have u1 := cell_later hh.ext x1
 go_simp
 exact hK.out _ rfl _ _ (Below.refl _ _) rfl)
 refine Stab.mvO (k := 1) s1 hf.size hok.out rfl rfl rfl (.inl rfl) (by kernel_rfl) ?_
 apply Stab.t 2 _ hf.size hok.out rfl
 · (
 intro fr1 w1 hh hd hk K hK
 refine Stab.op_plain (o := _) rfl rfl ?_
 have s6 := Stab.u 0 1 hd hk rfl [] (by kernel_rfl) rfl rfl rfl
 have s7 := Stab.u 1 0 hd hk rfl [] (by kernel_rfl) rfl rfl rfl
 clear hd
 go_simp
 go_at_call 36; refine (ris36 q k hq0 hk3 S w1).mono ?_; rintro e w2 ⟨rfl, hb⟩
 rw [hos]
 exact hK.out _ rfl _ _ hb rfl)
 apply Stab.t 3 _ hf.size hok.out rfl
 · (
 intro fr1 w1 hh hd hk K hK
 refine Stab.op_plain (o := _) rfl rfl ?_
 have s8 := Stab.u 2 0 hd hk rfl [] (by kernel_rfl) rfl rfl rfl
 clear hd
 go_simp
 exact hK.out _ rfl _ _ (Below.refl _ _) rfl)
 refine Stab.mvN (k := 4) (j := 3) (m := 0) hf.size hok.out rfl rfl rfl (.inl rfl) rfl [] (by kernel_rfl) rfl rfl rfl ?_
 apply Stab.t 5 _ hf.size hok.out rfl
 · (
 intro fr1 w1 hh hd hk K hK
 have s10 := Stab.u 4 0 hd hk rfl [] (by kernel_rfl) rfl rfl rfl
 refine Stab.op_skip (o := _) rfl rfl rfl rfl s10 ?_
 exact hK.out _ rfl _ _ (Below.refl _ _) rfl)
 apply Stab.t 6 _ hf.size hok.out rfl
 · (
 intro fr1 w1 hh hd hk K hK
 have s10 := Stab.u 4 1 hd hk rfl [] (by kernel_rfl) rfl rfl rfl
 refine Stab.op_skip (o := _) rfl rfl rfl rfl s10 ?_
 exact hK.out _ rfl _ _ (Below.refl _ _) rfl)
 apply Stab.t 7 _ hf.size hok.out rfl
 · (
 intro fr1 w1 hh hd hk K hK
 have s10 := Stab.u 4 2 hd hk rfl [] (by kernel_rfl) rfl rfl rfl
 refine Stab.op_skip (o := _) rfl rfl rfl rfl s10 ?_
 exact hK.out _ rfl _ _ (Below.refl _ _) rfl)
 apply Stab.t 8 _ hf.size hok.out rfl
 · (
 intro fr1 w1 hh hd hk K hK
 have s10 := Stab.u 4 3 hd hk rfl [] (by kernel_rfl) rfl rfl rfl
 refine Stab.op_skip (o := _) rfl rfl rfl rfl s10 ?_
 exact hK.out _ rfl _ _ (Below.refl _ _) rfl)
 apply Stab.t 9 _ hf.size hok.out rfl
 · (
 intro fr1 w1 hh hd hk K hK
 have s10 := Stab.u 4 4 hd hk rfl [] (by kernel_rfl) rfl rfl rfl
 refine Stab.op_skip (o := _) rfl rfl rfl rfl s10 ?_
 exact hK.out _ rfl _ _ (Below.refl _ _) rfl)
 apply Stab.t 10 _ hf.size hok.out rfl
 · (
 intro fr1 w1 hh hd hk K hK
 have s10 := Stab.u 4 5 hd hk rfl [] (by kernel_rfl) rfl rfl rfl
 refine Stab.op_skip (o := _) rfl rfl rfl rfl s10 ?_
 exact hK.out _ rfl _ _ (Below.refl _ _) rfl)
 apply Stab.t 11 _ hf.size hok.out rfl
 · (
 intro fr1 w1 hh hd hk K hK
 have s10 := Stab.u 4 6 hd hk rfl [] (by kernel_rfl) rfl rfl rfl
 refine Stab.op_skip (o := _) rfl rfl rfl rfl s10 ?_
 exact hK.out _ rfl _ _ (Below.refl _ _) rfl)
 apply Stab.t 12 _ hf.size hok.out rfl
 · (
 intro fr1 w1 hh hd hk K hK
 have s10 := Stab.u 4 7 hd hk rfl [] (by kernel_rfl) rfl rfl rfl
 refine Stab.op_skip (o := _) rfl rfl rfl rfl s10 ?_
 exact hK.out _ rfl _ _ (Below.refl _ _) rfl)
 apply Stab.t 13 _ hf.size hok.out rfl
 · (
 intro fr1 w1 hh hd hk K hK
 have s10 := Stab.u 4 8 hd hk rfl [] (by kernel_rfl) rfl rfl rfl
 refine Stab.op_skip (o := _) rfl rfl rfl rfl s10 ?_
 exact hK.out _ rfl _ _ (Below.refl _ _) rfl)
 apply Stab.t 14 _ hf.size hok.out rfl
 · (
 intro fr1 w1 hh hd hk K hK
 refine Stab.op_plain (o := _) rfl rfl ?_
 have s10 := Stab.u 4 9 hd hk rfl [] (by kernel_rfl) rfl rfl rfl
 have s19 := Stab.u 13 0 hd hk rfl [] (by kernel_rfl) rfl rfl rfl
 clear hd
 go_simp
 exact hK.out _ rfl _ _ (Below.refl _ _) rfl)
 refine Stab.todo_facts (n := 27) (by kernel_rfl) hf.size hok.out rfl (fun fr1 w1 hh hg => ?_)
 replace s1 := Stab.o hh (by kernel_rfl) s1
 replace s2 := Stab.o hh (by kernel_rfl) s2
 replace s4 := Stab.o hh (by kernel_rfl) s4
 replace s5 := Stab.o hh (by kernel_rfl) s5
 have s20 := Stab.e 14 0 hg rfl rfl rfl rfl
 have hf1 : Fact.Fr 27 fr1 := ⟨hh.size.trans hf.size, hh.defers.trans hf.defers⟩
 have hx := hh.ext
 clear hg hh hf hok
 have hf := hf1; clear hf1
 refine Fact.nx (hK3 _ _ ?_)
 refine Fact.cond_t s20 ?_
 refine wp_seq_k (fun K4 hK4 => ?_)
 refine Fact.region ?_
 refine Fact.p rfl fun K hK => ?_
 go_simp
 refine hK.out _ _ ?_; clear hK K
 refine Fact.p rfl fun K hK => ?_
 go_simp
 refine hK.out _ _ ?_; clear hK K
 refine Fact.nil ?_
 refine Fact.q hf (by simp only [Fact.G]) rfl fun fr1 hf1 hT => ?_
 have hKp : _ ∧ _ ∧ _ ∧ _ := ⟨hT 1, hT 2, hT 4, hT 5⟩
 simp only [Fact.G, Nat.reduceEqDiff, Nat.reduceLT, hf.size, reduceIte, s1, s2] at hKp
 clear hT hf s1 s2 s4 s5 s20
 obtain ⟨s1, s2, s4, s5⟩ := hKp
 have hf := hf1; clear hf1
 refine Fact.nx (hK4 _ _ ?_)
 refine wp_ret ?_
 refine Fact.then_ret ?_
 exact Fact.ret2 rfl hf s4 s5 ⟨by simp [distS, isS, hos], hb0.trans (hx.mono hb0.size)⟩
set_option maxHeartbeats 4000000 in
set_option maxRecDepth 100000 in
theorem rdist31far (q : ByteArray) (k : Nat) (hq0 : q.size ≤ 255) (hk3 : k ≤ 3) (S : ByteArray) (hos : okS q k S = true) (hgt : k < at_ S q.size) (w : World) : Calls Try.prog 31 #[.agg #[.string q, .int .i64 k], .string S] w fun e w1 => e = .returned (.tuple #[.int .i64 (distS q k S : Nat), .bool (isS q k S)]) ∧ Below w.heap.size w w1 := by
 refine calls_of_wp Try.func31 rfl ?_
 refine Fact.enter (n := 27) (by kernel_rfl) (fun fr hf hT => ?_)
 have s0 := hT 0 _ rfl
 have s1 := hT 1 _ rfl
 clear hT
 obtain ⟨W0, hW0⟩ : ∃ W0, w.alloc (.cells #[.string q, .int .i64 k] 31) = W0 := ⟨_, rfl⟩
 obtain ⟨x0, x1, hb0⟩ := auto_cells w q k W0 hW0
 refine wp_seq_k (fun K1 hK1 => ?_)
 refine Fact.region ?_
 refine Fact.p rfl fun K hK => ?_
 go_simp
 refine hK.out _ _ ?_; clear hK K
 refine Fact.p rfl fun K hK => ?_
 go_simp
 refine hK.out _ _ ?_; clear hK K
 refine Fact.p rfl fun K hK => ?_
 go_simp
 refine hK.out _ _ ?_; clear hK K
 refine Fact.nil ?_
 refine Fact.q hf (by simp only [Fact.G]) rfl fun fr1 hf1 hT => ?_
 have hKp : _ ∧ _ ∧ _ ∧ _ := ⟨hT 1, hT 2, hT 4, hT 5⟩
 simp only [Fact.G, Nat.reduceEqDiff, Nat.reduceLT, hf.size, reduceIte, s1] at hKp
 clear hT hf s0 s1
 obtain ⟨s1, s2, s4, s5⟩ := hKp
 have hf := hf1; clear hf1
 refine Fact.nx (hK1 _ _ ?_)
 try rw [hW0]
 clear hW0
 have hsz := okS_size hos
 have hsl := at_lt S q.size
 have hatS : ∀ (j : Nat) (h : j < S.size), S[j].toNat = at_ S j := fun j h => (at_get h).symm
 have e2 : IntKind.i64.wrap ((at_ S q.size : Nat) : Int) = ((at_ S q.size : Nat) : Int) := Fact.wrap_i64 (by omega) (by omega)
 refine wp_seq_k (fun K2 hK2 => ?_)
 refine wp_seq_k (fun K3 hK3 => ?_)
 refine Stab.todo_begin (n := 27) (Stab.OkOps.of (by kernel_rfl)) (fun hok => ?_)
 apply Stab.t 0 _ hf.size hok.out rfl
 · (
 intro fr1 w1 hh hd hk K hK
 refine Stab.op_plain (o := _) rfl rfl ?_
 have s2 := Stab.o hh (by kernel_rfl) s2
 clear hd
 have u0 := cell_later hh.ext x0; have u1 := cell_later hh.ext x1
 go_simp
 exact hK.out _ rfl _ _ (Below.refl _ _) rfl)
 refine Stab.mvO (k := 1) s1 hf.size hok.out rfl rfl rfl (.inl rfl) (by kernel_rfl) ?_
 apply Stab.t 2 _ hf.size hok.out rfl
 · (
 intro fr1 w1 hh hd hk K hK
 refine Stab.op_plain (o := _) rfl rfl ?_
 have s6 := Stab.u 0 1 hd hk rfl [] (by kernel_rfl) rfl rfl rfl
 have s7 := Stab.u 1 0 hd hk rfl [] (by kernel_rfl) rfl rfl rfl
 clear hd
 go_simp
 go_at_call 36; refine (ris36 q k hq0 hk3 S w1).mono ?_; rintro e w2 ⟨rfl, hb⟩
 rw [hos]
 exact hK.out _ rfl _ _ hb rfl)
 apply Stab.t 3 _ hf.size hok.out rfl
 · (
 intro fr1 w1 hh hd hk K hK
 refine Stab.op_plain (o := _) rfl rfl ?_
 have s8 := Stab.u 2 0 hd hk rfl [] (by kernel_rfl) rfl rfl rfl
 clear hd
 go_simp
 exact hK.out _ rfl _ _ (Below.refl _ _) rfl)
 refine Stab.mvN (k := 4) (j := 3) (m := 0) hf.size hok.out rfl rfl rfl (.inl rfl) rfl [] (by kernel_rfl) rfl rfl rfl ?_
 apply Stab.t 5 _ hf.size hok.out rfl
 · (
 intro fr1 w1 hh hd hk K hK
 have s10 := Stab.u 4 0 hd hk rfl [] (by kernel_rfl) rfl rfl rfl
 refine Stab.op_guard (o := _) rfl rfl rfl rfl s10 ?_
 have s1 := Stab.o hh (by kernel_rfl) s1
 clear hd
 go_simp
 exact hK.out _ rfl _ _ (Below.refl _ _) rfl)
 apply Stab.t 6 _ hf.size hok.out rfl
 · (
 intro fr1 w1 hh hd hk K hK
 have s10 := Stab.u 4 1 hd hk rfl [] (by kernel_rfl) rfl rfl rfl
 refine Stab.op_guard (o := _) rfl rfl rfl rfl s10 ?_
 have s2 := Stab.o hh (by kernel_rfl) s2
 clear hd
 go_simp
 exact hK.out _ rfl _ _ (Below.refl _ _) rfl)
 apply Stab.t 7 _ hf.size hok.out rfl
 · (
 intro fr1 w1 hh hd hk K hK
 have s10 := Stab.u 4 2 hd hk rfl [] (by kernel_rfl) rfl rfl rfl
 refine Stab.op_guard (o := _) rfl rfl rfl rfl s10 ?_
 have s12 := Stab.u 6 0 hd hk rfl [] (by kernel_rfl) rfl rfl rfl
 clear hd
 have u0 := cell_later hh.ext x0
 go_simp
 exact hK.out _ rfl _ _ (Below.refl _ _) rfl)
 apply Stab.t 8 _ hf.size hok.out rfl
 · (
 intro fr1 w1 hh hd hk K hK
 have s10 := Stab.u 4 3 hd hk rfl [] (by kernel_rfl) rfl rfl rfl
 refine Stab.op_guard (o := _) rfl rfl rfl rfl s10 ?_
 have s13 := Stab.u 7 0 hd hk rfl [] (by kernel_rfl) rfl rfl rfl
 clear hd
 go_simp
 exact hK.out _ rfl _ _ (Below.refl _ _) rfl)
 apply Stab.t 9 _ hf.size hok.out rfl
 · (
 intro fr1 w1 hh hd hk K hK
 have s10 := Stab.u 4 4 hd hk rfl [] (by kernel_rfl) rfl rfl rfl
 refine Stab.op_guard (o := _) rfl rfl rfl rfl s10 ?_
 have s11 := Stab.u 5 3 hd hk rfl [] (by kernel_rfl) rfl rfl rfl
 have s14 := Stab.u 8 0 hd hk rfl [] (by kernel_rfl) rfl rfl rfl
 clear hd
 go_simp
 try rw [if_pos (by omega)]
 exact hK.out _ rfl _ _ (Below.refl _ _) rfl)
 apply Stab.t 10 _ hf.size hok.out rfl
 · (
 intro fr1 w1 hh hd hk K hK
 have s10 := Stab.u 4 5 hd hk rfl [] (by kernel_rfl) rfl rfl rfl
 refine Stab.op_guard (o := _) rfl rfl rfl rfl s10 ?_
 have s15 := Stab.u 9 0 hd hk rfl [] (by kernel_rfl) rfl rfl rfl
 clear hd
 go_simp
 exact hK.out _ rfl _ _ (Below.refl _ _) rfl)
 apply Stab.t 11 _ hf.size hok.out rfl
 · (
 intro fr1 w1 hh hd hk K hK
 have s10 := Stab.u 4 6 hd hk rfl [] (by kernel_rfl) rfl rfl rfl
 refine Stab.op_guard (o := _) rfl rfl rfl rfl s10 ?_
 have s2 := Stab.o hh (by kernel_rfl) s2
 clear hd
 go_simp
 exact hK.out _ rfl _ _ (Below.refl _ _) rfl)
 apply Stab.t 12 _ hf.size hok.out rfl
 · (
 intro fr1 w1 hh hd hk K hK
 have s10 := Stab.u 4 7 hd hk rfl [] (by kernel_rfl) rfl rfl rfl
 refine Stab.op_guard (o := _) rfl rfl rfl rfl s10 ?_
 have s17 := Stab.u 11 0 hd hk rfl [] (by kernel_rfl) rfl rfl rfl
 clear hd
 have u1 := cell_later hh.ext x1
 go_simp
 exact hK.out _ rfl _ _ (Below.refl _ _) rfl)
 apply Stab.t 13 _ hf.size hok.out rfl
 · (
 intro fr1 w1 hh hd hk K hK
 have s10 := Stab.u 4 8 hd hk rfl [] (by kernel_rfl) rfl rfl rfl
 refine Stab.op_guard (o := _) rfl rfl rfl rfl s10 ?_
 have s16 := Stab.u 10 2 hd hk rfl [] (by kernel_rfl) rfl rfl rfl
 have s18 := Stab.u 12 0 hd hk rfl [] (by kernel_rfl) rfl rfl rfl
 clear hd
 go_simp
 exact hK.out _ rfl _ _ (Below.refl _ _) rfl)
 apply Stab.t 14 _ hf.size hok.out rfl
 · (
 intro fr1 w1 hh hd hk K hK
 refine Stab.op_plain (o := _) rfl rfl ?_
 have s10 := Stab.u 4 9 hd hk rfl [] (by kernel_rfl) rfl rfl rfl
 have s19 := Stab.u 13 0 hd hk rfl [] (by kernel_rfl) rfl rfl rfl
 clear hd
 go_simp
 exact hK.out _ rfl _ _ (Below.refl _ _) rfl)
 refine Stab.todo_facts (n := 27) (by kernel_rfl) hf.size hok.out rfl (fun fr1 w1 hh hg => ?_)
 replace s1 := Stab.o hh (by kernel_rfl) s1
 replace s2 := Stab.o hh (by kernel_rfl) s2
 replace s4 := Stab.o hh (by kernel_rfl) s4
 replace s5 := Stab.o hh (by kernel_rfl) s5
 have s20 := Stab.e 14 0 hg rfl rfl rfl rfl
 have hf1 : Fact.Fr 27 fr1 := ⟨hh.size.trans hf.size, hh.defers.trans hf.defers⟩
 have hx := hh.ext
 clear hg hh hf hok
 have hf := hf1; clear hf1
 refine Fact.nx (hK3 _ _ ?_)
 have q2 : decide (k < at_ S q.size) = true := decide_eq_true (by omega)
 try simp only [q2] at s20
 refine Fact.cond_t s20 ?_
 refine wp_seq_k (fun K4 hK4 => ?_)
 refine Fact.region ?_
 refine Fact.p rfl fun K hK => ?_
 go_simp
 refine hK.out _ _ ?_; clear hK K
 refine Fact.p rfl fun K hK => ?_
 go_simp
 refine hK.out _ _ ?_; clear hK K
 refine Fact.nil ?_
 refine Fact.q hf (by simp only [Fact.G]) rfl fun fr1 hf1 hT => ?_
 have hKp : _ ∧ _ ∧ _ ∧ _ := ⟨hT 1, hT 2, hT 4, hT 5⟩
 simp only [Fact.G, Nat.reduceEqDiff, Nat.reduceLT, hf.size, reduceIte, s1, s2] at hKp
 clear hT hf s1 s2 s4 s5 s20
 obtain ⟨s1, s2, s4, s5⟩ := hKp
 have hf := hf1; clear hf1
 refine Fact.nx (hK4 _ _ ?_)
 refine wp_ret ?_
 refine Fact.then_ret ?_
 exact Fact.ret2 rfl hf s4 s5 ⟨by simp [distS, isS, hos, show ¬ at_ S q.size ≤ k by omega], hb0.trans (hx.mono hb0.size)⟩
set_option maxHeartbeats 4000000 in
set_option maxRecDepth 100000 in
theorem rdist31yes (q : ByteArray) (k : Nat) (hq0 : q.size ≤ 255) (hk3 : k ≤ 3) (S : ByteArray) (hos : okS q k S = true) (hle : at_ S q.size ≤ k) (w : World) : Calls Try.prog 31 #[.agg #[.string q, .int .i64 k], .string S] w fun e w1 => e = .returned (.tuple #[.int .i64 (distS q k S : Nat), .bool (isS q k S)]) ∧ Below w.heap.size w w1 := by
 refine calls_of_wp Try.func31 rfl ?_
 refine Fact.enter (n := 27) (by kernel_rfl) (fun fr hf hT => ?_)
 have s0 := hT 0 _ rfl
 have s1 := hT 1 _ rfl
 clear hT
 obtain ⟨W0, hW0⟩ : ∃ W0, w.alloc (.cells #[.string q, .int .i64 k] 31) = W0 := ⟨_, rfl⟩
 obtain ⟨x0, x1, hb0⟩ := auto_cells w q k W0 hW0
 refine wp_seq_k (fun K1 hK1 => ?_)
 refine Fact.region ?_
 refine Fact.p rfl fun K hK => ?_
 go_simp
 refine hK.out _ _ ?_; clear hK K
 refine Fact.p rfl fun K hK => ?_
 go_simp
 refine hK.out _ _ ?_; clear hK K
 refine Fact.p rfl fun K hK => ?_
 go_simp
 refine hK.out _ _ ?_; clear hK K
 refine Fact.nil ?_
 refine Fact.q hf (by simp only [Fact.G]) rfl fun fr1 hf1 hT => ?_
 have hKp : _ ∧ _ ∧ _ ∧ _ := ⟨hT 1, hT 2, hT 4, hT 5⟩
 simp only [Fact.G, Nat.reduceEqDiff, Nat.reduceLT, hf.size, reduceIte, s1] at hKp
 clear hT hf s0 s1
 obtain ⟨s1, s2, s4, s5⟩ := hKp
 have hf := hf1; clear hf1
 refine Fact.nx (hK1 _ _ ?_)
 try rw [hW0]
 clear hW0
 have hsz := okS_size hos
 have hsl := at_lt S q.size
 have hatS : ∀ (j : Nat) (h : j < S.size), S[j].toNat = at_ S j := fun j h => (at_get h).symm
 have e2 : IntKind.i64.wrap ((at_ S q.size : Nat) : Int) = ((at_ S q.size : Nat) : Int) := Fact.wrap_i64 (by omega) (by omega)
 refine wp_seq_k (fun K2 hK2 => ?_)
 refine wp_seq_k (fun K3 hK3 => ?_)
 refine Stab.todo_begin (n := 27) (Stab.OkOps.of (by kernel_rfl)) (fun hok => ?_)
 apply Stab.t 0 _ hf.size hok.out rfl
 · (
 intro fr1 w1 hh hd hk K hK
 refine Stab.op_plain (o := _) rfl rfl ?_
 have s2 := Stab.o hh (by kernel_rfl) s2
 clear hd
 have u0 := cell_later hh.ext x0; have u1 := cell_later hh.ext x1
 go_simp
 exact hK.out _ rfl _ _ (Below.refl _ _) rfl)
 refine Stab.mvO (k := 1) s1 hf.size hok.out rfl rfl rfl (.inl rfl) (by kernel_rfl) ?_
 apply Stab.t 2 _ hf.size hok.out rfl
 · (
 intro fr1 w1 hh hd hk K hK
 refine Stab.op_plain (o := _) rfl rfl ?_
 have s6 := Stab.u 0 1 hd hk rfl [] (by kernel_rfl) rfl rfl rfl
 have s7 := Stab.u 1 0 hd hk rfl [] (by kernel_rfl) rfl rfl rfl
 clear hd
 go_simp
 go_at_call 36; refine (ris36 q k hq0 hk3 S w1).mono ?_; rintro e w2 ⟨rfl, hb⟩
 rw [hos]
 exact hK.out _ rfl _ _ hb rfl)
 apply Stab.t 3 _ hf.size hok.out rfl
 · (
 intro fr1 w1 hh hd hk K hK
 refine Stab.op_plain (o := _) rfl rfl ?_
 have s8 := Stab.u 2 0 hd hk rfl [] (by kernel_rfl) rfl rfl rfl
 clear hd
 go_simp
 exact hK.out _ rfl _ _ (Below.refl _ _) rfl)
 refine Stab.mvN (k := 4) (j := 3) (m := 0) hf.size hok.out rfl rfl rfl (.inl rfl) rfl [] (by kernel_rfl) rfl rfl rfl ?_
 apply Stab.t 5 _ hf.size hok.out rfl
 · (
 intro fr1 w1 hh hd hk K hK
 have s10 := Stab.u 4 0 hd hk rfl [] (by kernel_rfl) rfl rfl rfl
 refine Stab.op_guard (o := _) rfl rfl rfl rfl s10 ?_
 have s1 := Stab.o hh (by kernel_rfl) s1
 clear hd
 go_simp
 exact hK.out _ rfl _ _ (Below.refl _ _) rfl)
 apply Stab.t 6 _ hf.size hok.out rfl
 · (
 intro fr1 w1 hh hd hk K hK
 have s10 := Stab.u 4 1 hd hk rfl [] (by kernel_rfl) rfl rfl rfl
 refine Stab.op_guard (o := _) rfl rfl rfl rfl s10 ?_
 have s2 := Stab.o hh (by kernel_rfl) s2
 clear hd
 go_simp
 exact hK.out _ rfl _ _ (Below.refl _ _) rfl)
 apply Stab.t 7 _ hf.size hok.out rfl
 · (
 intro fr1 w1 hh hd hk K hK
 have s10 := Stab.u 4 2 hd hk rfl [] (by kernel_rfl) rfl rfl rfl
 refine Stab.op_guard (o := _) rfl rfl rfl rfl s10 ?_
 have s12 := Stab.u 6 0 hd hk rfl [] (by kernel_rfl) rfl rfl rfl
 clear hd
 have u0 := cell_later hh.ext x0
 go_simp
 exact hK.out _ rfl _ _ (Below.refl _ _) rfl)
 apply Stab.t 8 _ hf.size hok.out rfl
 · (
 intro fr1 w1 hh hd hk K hK
 have s10 := Stab.u 4 3 hd hk rfl [] (by kernel_rfl) rfl rfl rfl
 refine Stab.op_guard (o := _) rfl rfl rfl rfl s10 ?_
 have s13 := Stab.u 7 0 hd hk rfl [] (by kernel_rfl) rfl rfl rfl
 clear hd
 go_simp
 exact hK.out _ rfl _ _ (Below.refl _ _) rfl)
 apply Stab.t 9 _ hf.size hok.out rfl
 · (
 intro fr1 w1 hh hd hk K hK
 have s10 := Stab.u 4 4 hd hk rfl [] (by kernel_rfl) rfl rfl rfl
 refine Stab.op_guard (o := _) rfl rfl rfl rfl s10 ?_
 have s11 := Stab.u 5 3 hd hk rfl [] (by kernel_rfl) rfl rfl rfl
 have s14 := Stab.u 8 0 hd hk rfl [] (by kernel_rfl) rfl rfl rfl
 clear hd
 go_simp
 try rw [if_pos (by omega)]
 exact hK.out _ rfl _ _ (Below.refl _ _) rfl)
 apply Stab.t 10 _ hf.size hok.out rfl
 · (
 intro fr1 w1 hh hd hk K hK
 have s10 := Stab.u 4 5 hd hk rfl [] (by kernel_rfl) rfl rfl rfl
 refine Stab.op_guard (o := _) rfl rfl rfl rfl s10 ?_
 have s15 := Stab.u 9 0 hd hk rfl [] (by kernel_rfl) rfl rfl rfl
 clear hd
 go_simp
 exact hK.out _ rfl _ _ (Below.refl _ _) rfl)
 apply Stab.t 11 _ hf.size hok.out rfl
 · (
 intro fr1 w1 hh hd hk K hK
 have s10 := Stab.u 4 6 hd hk rfl [] (by kernel_rfl) rfl rfl rfl
 refine Stab.op_guard (o := _) rfl rfl rfl rfl s10 ?_
 have s2 := Stab.o hh (by kernel_rfl) s2
 clear hd
 go_simp
 exact hK.out _ rfl _ _ (Below.refl _ _) rfl)
 apply Stab.t 12 _ hf.size hok.out rfl
 · (
 intro fr1 w1 hh hd hk K hK
 have s10 := Stab.u 4 7 hd hk rfl [] (by kernel_rfl) rfl rfl rfl
 refine Stab.op_guard (o := _) rfl rfl rfl rfl s10 ?_
 have s17 := Stab.u 11 0 hd hk rfl [] (by kernel_rfl) rfl rfl rfl
 clear hd
 have u1 := cell_later hh.ext x1
 go_simp
 exact hK.out _ rfl _ _ (Below.refl _ _) rfl)
 apply Stab.t 13 _ hf.size hok.out rfl
 · (
 intro fr1 w1 hh hd hk K hK
 have s10 := Stab.u 4 8 hd hk rfl [] (by kernel_rfl) rfl rfl rfl
 refine Stab.op_guard (o := _) rfl rfl rfl rfl s10 ?_
 have s16 := Stab.u 10 2 hd hk rfl [] (by kernel_rfl) rfl rfl rfl
 have s18 := Stab.u 12 0 hd hk rfl [] (by kernel_rfl) rfl rfl rfl
 clear hd
 go_simp
 exact hK.out _ rfl _ _ (Below.refl _ _) rfl)
 apply Stab.t 14 _ hf.size hok.out rfl
 · (
 intro fr1 w1 hh hd hk K hK
 refine Stab.op_plain (o := _) rfl rfl ?_
 have s10 := Stab.u 4 9 hd hk rfl [] (by kernel_rfl) rfl rfl rfl
 have s19 := Stab.u 13 0 hd hk rfl [] (by kernel_rfl) rfl rfl rfl
 clear hd
 go_simp
 exact hK.out _ rfl _ _ (Below.refl _ _) rfl)
 refine Stab.todo_facts (n := 27) (by kernel_rfl) hf.size hok.out rfl (fun fr1 w1 hh hg => ?_)
 replace s1 := Stab.o hh (by kernel_rfl) s1
 replace s2 := Stab.o hh (by kernel_rfl) s2
 replace s4 := Stab.o hh (by kernel_rfl) s4
 replace s5 := Stab.o hh (by kernel_rfl) s5
 have s20 := Stab.e 14 0 hg rfl rfl rfl rfl
 have hf1 : Fact.Fr 27 fr1 := ⟨hh.size.trans hf.size, hh.defers.trans hf.defers⟩
 have hx := hh.ext
 clear hg hh hf hok
 have hf := hf1; clear hf1
 refine Fact.nx (hK3 _ _ ?_)
 have q2 : decide (k < at_ S q.size) = false := decide_eq_false (by omega)
 try simp only [q2] at s20
 refine Fact.cond_f s20 ?_
 have y0 := cell_later hx x0
 refine wp_skip ?_
 refine Fact.nx (hK2 _ _ ?_)
 refine wp_seq_k (fun K4 hK4 => ?_)
 refine Fact.region ?_
 have b21 := hf.l 21 rfl
 have b22 := hf.l 22 rfl
 have b23 := hf.l 23 rfl
 have b24 := hf.l 24 rfl
 have b25 := hf.l 25 rfl
 have b26 := hf.l 26 rfl
 refine Fact.p rfl fun K hK => ?_
 go_simp
 refine hK.out _ _ ?_; clear hK K
 refine Fact.p rfl fun K hK => ?_
 go_simp
 refine hK.out _ _ ?_; clear hK K
 refine Fact.p rfl fun K hK => ?_
 go_simp
 refine hK.out _ _ ?_; clear hK K
 refine Fact.p rfl fun K hK => ?_
 go_simp
 refine hK.out _ _ ?_; clear hK K
 refine Fact.p rfl fun K hK => ?_
 go_simp
 try rw [if_pos (by omega)]
 refine hK.out _ _ ?_; clear hK K
 refine Fact.p rfl fun K hK => ?_
 go_simp
 refine hK.out _ _ ?_; clear hK K
 refine Fact.p rfl fun K hK => ?_
 go_simp
 refine hK.out _ _ ?_; clear hK K
 refine Fact.p rfl fun K hK => ?_
 go_simp
 refine hK.out _ _ ?_; clear hK K
 refine Fact.nil ?_
 refine Fact.q hf (by simp only [Fact.G]) rfl fun fr1 hf1 hT => ?_
 have hKp : _ ∧ _ := ⟨hT 4, hT 5⟩
 simp only [Fact.G, Nat.reduceEqDiff, Nat.reduceLT, hf.size, reduceIte] at hKp
 clear hT hf s1 s2 s4 s5 s20 b21 b22 b23 b24 b25 b26
 obtain ⟨s4, s5⟩ := hKp
 have hf := hf1; clear hf1
 refine Fact.nx (hK4 _ _ ?_)
 refine wp_ret ?_
 exact Fact.ret2 rfl hf s4 s5 ⟨by simp [distS, isS, hos, hle], hb0.trans (hx.mono hb0.size)⟩
theorem rdist31 (q : ByteArray) (k : Nat) (hq0 : q.size ≤ 255) (hk3 : k ≤ 3) (S : ByteArray) (w : World) : Calls Try.prog 31 #[.agg #[.string q, .int .i64 k], .string S] w fun e w1 => e = .returned (.tuple #[.int .i64 (distS q k S : Nat), .bool (isS q k S)]) ∧ Below w.heap.size w w1 := by
  cases h : okS q k S with
  | true =>
    by_cases hle : at_ S q.size ≤ k
    · exact rdist31yes q k hq0 hk3 S h hle w
    · exact rdist31far q k hq0 hk3 S h (by omega) w
  | false => exact rdist31no q k hq0 hk3 S h w

set_option maxHeartbeats 4000000 in
set_option maxRecDepth 100000 in
theorem rstate29 (q : ByteArray) (k : Nat) (hq0 : q.size ≤ 255) (hk3 : k ≤ 3) (n : Nat) (hn : n ≤ 900) (v : Value) (r : Nat → Nat) (hr9 : ∀ j, j < n → r j ≤ 100000) (w : World) (hrd : Rd w v n r) : Calls Try.prog 29 #[.agg #[.string q, .int .i64 k], v] w fun e w1 => e = .returned (.string (strOf (caps_ r k n))) ∧ Below w.heap.size w w1 := by
 obtain ⟨g, cc, rfl, hr⟩ := hrd
 refine calls_of_wp Try.func29 rfl ?_
 refine Fact.enter (n := 27) (by kernel_rfl) (fun fr hf hT => ?_)
 have s0 := hT 0 _ rfl
 have s1 := hT 1 _ rfl
 clear hT
 obtain ⟨W0, hW0⟩ : ∃ W0, w.alloc (.cells #[.string q, .int .i64 k] 31) = W0 := ⟨_, rfl⟩
 obtain ⟨x0, x1, hb0⟩ := auto_cells w q k W0 hW0
 refine wp_seq_k (fun K1 hK1 => ?_)
 refine Fact.region ?_
 refine Fact.p rfl fun K hK => ?_
 go_simp
 refine hK.out _ _ ?_; clear hK K
 refine Fact.p rfl fun K hK => ?_
 go_simp
 refine hK.out _ _ ?_; clear hK K
 refine Fact.nil ?_
 refine Fact.q hf (by simp only [Fact.G]) rfl fun fr1 hf1 hT => ?_
 have hKp : _ ∧ _ ∧ _ := ⟨hT 1, hT 2, hT 4⟩
 simp only [Fact.G, Nat.reduceEqDiff, Nat.reduceLT, hf.size, reduceIte, s1] at hKp
 clear hT hf s0 s1
 obtain ⟨s1, s2, s4⟩ := hKp
 have hf := hf1; clear hf1
 refine Fact.nx (hK1 _ _ ?_)
 try rw [hW0]
 clear hW0
 have hr0 : ∀ j, j < n → W0.cell? ⟨g, j, none⟩ = some (.int .i64 (r j : Nat)) := fun j hj => cell_later hb0 (hr j hj)
 have HR0 := Lib.hid hr0; clear hr0 hr
 refine wp_seq_k (fun K2 hK2 => ?_)
 refine Fact.region ?_
 refine Fact.p rfl fun K hK => ?_
 go_simp
 refine hK.out _ _ ?_; clear hK K
 refine Fact.nil ?_
 refine Fact.q hf (by simp only [Fact.G]) rfl fun fr1 hf1 hT => ?_
 have hKp : _ ∧ _ ∧ _ ∧ _ := ⟨hT 1, hT 2, hT 4, hT 5⟩
 simp only [Fact.G, Nat.reduceEqDiff, Nat.reduceLT, hf.size, reduceIte, s1, s2, s4] at hKp
 clear hT hf s1 s2 s4
 obtain ⟨s1, s2, s4, s5⟩ := hKp
 have hf := hf1; clear hf1
 refine Fact.nx (hK2 _ _ ?_)
 refine wp_seq_k (fun K3 hK3 => ?_)
 refine wp_seq_k (fun K4 hK4 => ?_)
 refine Fact.region ?_
 refine Fact.p rfl fun K hK => ?_
 go_simp
 refine hK.out _ _ ?_; clear hK K
 refine Fact.nil ?_
 refine Fact.q hf (by simp only [Fact.G]) rfl fun fr1 hf1 hT => ?_
 have hKp : _ ∧ _ ∧ _ ∧ _ ∧ _ := ⟨hT 1, hT 2, hT 4, hT 5, hT 6⟩
 simp only [Fact.G, Nat.reduceEqDiff, Nat.reduceLT, hf.size, reduceIte, s1, s2, s4, s5] at hKp
 clear hT hf s1 s2 s4 s5
 obtain ⟨s1, s2, s4, s5, s6⟩ := hKp
 have hf := hf1; clear hf1
 refine Fact.nx (hK4 _ _ ?_)
 refine wp_block ?_
 refine wp_loop_ghost (fun gk fr wr => ∃ (i : Nat) (v : Value), gk = n - i ∧ i ≤ n ∧ Fact.Fr 27 fr ∧ fr.tmps[1]? = some (.slice (some ⟨g, 0, none⟩) n cc) ∧ fr.tmps[2]? = some (.pointer (some ⟨w.heap.size, 0, none⟩)) ∧ fr.tmps[5]? = some v ∧ fr.tmps[6]? = some (.int .i64 i) ∧ OB wr W0.heap.size v (caps_ r k i) ∧ Below W0.heap.size W0 wr) (n) ?_ ?_
 · (
 exact ⟨0, _, rfl, Nat.zero_le _, hf, s1, s2, s5, s6, OB.nil _ _, Below.refl _ _⟩)
 · (
 clear hf s1 s2 s4 s5 s6
 rintro gk fr wr ⟨i, v, hk, hi, hf, s1, s2, s5, s6, ho, hb⟩
 have HK := Lib.hid hk; clear hk
 have y1 := cell_later hb x1
 refine wp_seq_k (fun K5 hK5 => ?_)
 refine wp_seq_k (fun K6 hK6 => ?_)
 refine Fact.region ?_
 have b7 := hf.l 7 rfl
 have b8 := hf.l 8 rfl
 have b9 := hf.l 9 rfl
 refine Fact.p rfl fun K hK => ?_
 go_simp
 refine hK.out _ _ ?_; clear hK K
 refine Fact.p rfl fun K hK => ?_
 go_simp
 refine hK.out _ _ ?_; clear hK K
 refine Fact.p rfl fun K hK => ?_
 go_simp
 refine hK.out _ _ ?_; clear hK K
 refine Fact.p rfl fun K hK => ?_
 go_simp
 refine hK.out _ _ ?_; clear hK K
 refine Fact.nil ?_
 refine Fact.q hf (by simp only [Fact.G]) rfl fun fr1 hf1 hT => ?_
 have hKp : _ ∧ _ ∧ _ ∧ _ ∧ _ ∧ _ ∧ _ ∧ _ := ⟨hT 1, hT 2, hT 5, hT 6, hT 7, hT 8, hT 9, hT 10⟩
 simp only [Fact.G, Nat.reduceEqDiff, Nat.reduceLT, hf.size, reduceIte, s1, s2, s5, s6] at hKp
 clear hT hf s1 s2 s5 s6 b7 b8 b9
 obtain ⟨s1, s2, s5, s6, s7, s8, s9, s10⟩ := hKp
 have hf := hf1; clear hf1
 refine Fact.nx (hK6 _ _ ?_)
 refine Fact.cond_s s10 (fun hq => ?_) (fun hq => ?_)
 · (
 have hlt : i < n := by have h9 := of_decide_eq_true hq; omega
 have cr := cell_later hb (HR0.out i hlt)
 have hr1 := hr9 i hlt
 obtain ⟨X, hX⟩ : ∃ X, r i = X := ⟨_, rfl⟩
 rw [hX] at cr hr1
 have e1 : min (X : Int) ((k : Int) + 1) = ((min X (k + 1) : Nat) : Int) := by omega
 obtain ⟨Y, hY⟩ : ∃ Y, min X (k + 1) = Y := ⟨_, rfl⟩
 have hY9 : Y ≤ 4 := by omega
 have E1 := Lib.hid e1; clear e1
 have e2 : IntKind.u8.wrap (Y : Int) = (Y : Int) := Fact.wrap_u8 (by omega) (by omega)
 have HX := Lib.hid hX; have HY := Lib.hid hY; clear hX hY
 have hbs := hb.size
 refine wp_skip ?_
 refine Fact.nx (hK5 _ _ ?_)
 refine wp_seq_k (fun K7 hK7 => ?_)
 refine wp_block ?_
 refine Stab.todo_begin (n := 27) (Stab.OkOps.of (by kernel_rfl)) (fun hok => ?_)
 refine Stab.mvP (k := 0) (j := 12) s5 hf.size hok.out rfl rfl rfl (.inl rfl) [] (by kernel_rfl) (by kernel_rfl) ?_
 refine Stab.mvO (k := 1) s1 hf.size hok.out rfl rfl rfl (.inl rfl) (by kernel_rfl) ?_
 refine Stab.mvO (k := 2) s6 hf.size hok.out rfl rfl rfl (.inl rfl) (by kernel_rfl) ?_
 apply Stab.t 3 _ hf.size hok.out rfl
 · (
 intro fr1 w1 hh hd hk K hK
 refine Stab.op_plain (o := _) rfl rfl ?_
 have s14 := Stab.u 1 1 hd hk rfl [] (by kernel_rfl) rfl rfl rfl
 have s15 := Stab.u 2 0 hd hk rfl [] (by kernel_rfl) rfl rfl rfl
 clear hd
 go_simp
 try rw [if_pos (by omega)]
 exact hK.out _ rfl _ _ (Below.refl _ _) rfl)
 apply Stab.t 4 _ hf.size hok.out rfl
 · (
 intro fr1 w1 hh hd hk K hK
 refine Stab.op_plain (o := _) rfl rfl ?_
 have s16 := Stab.u 3 0 hd hk rfl [] (by kernel_rfl) rfl rfl rfl
 clear hd
 have u1 := cell_later hh.ext cr
 go_simp
 exact hK.out _ rfl _ _ (Below.refl _ _) rfl)
 apply Stab.t 5 _ hf.size hok.out rfl
 · (
 intro fr1 w1 hh hd hk K hK
 refine Stab.op_plain (o := _) rfl rfl ?_
 have s2 := Stab.o hh (by kernel_rfl) s2
 clear hd
 go_simp
 exact hK.out _ rfl _ _ (Below.refl _ _) rfl)
 apply Stab.t 6 _ hf.size hok.out rfl
 · (
 intro fr1 w1 hh hd hk K hK
 refine Stab.op_plain (o := _) rfl rfl ?_
 have s18 := Stab.u 5 0 hd hk rfl [] (by kernel_rfl) rfl rfl rfl
 clear hd
 have u1 := cell_later hh.ext y1
 go_simp
 exact hK.out _ rfl _ _ (Below.refl _ _) rfl)
 apply Stab.t 7 _ hf.size hok.out rfl
 · (
 intro fr1 w1 hh hd hk K hK
 refine Stab.op_plain (o := _) rfl rfl ?_
 have s19 := Stab.u 6 0 hd hk rfl [] (by kernel_rfl) rfl rfl rfl
 clear hd
 go_simp
 try simp (disch := omega) only [Fact.wrap_i64, Fact.wrap_u8, Fact.wrap_u32, Fact.wrap_u64]
 exact hK.out _ rfl _ _ (Below.refl _ _) rfl)
 apply Stab.t 8 _ hf.size hok.out rfl
 · (
 intro fr1 w1 hh hd hk K hK
 refine Stab.op_plain (o := _) rfl rfl ?_
 have s17 := Stab.u 4 3 hd hk rfl [] (by kernel_rfl) rfl rfl rfl
 have s20 := Stab.u 7 0 hd hk rfl [] (by kernel_rfl) rfl rfl rfl
 clear hd
 go_simp
 rw [E1.out, HY.out]
 exact hK.out _ rfl _ _ (Below.refl _ _) rfl)
 apply Stab.t 9 _ hf.size hok.out rfl
 · (
 intro fr1 w1 hh hd hk K hK
 refine Stab.op_plain (o := _) rfl rfl ?_
 have s21 := Stab.u 8 0 hd hk rfl [] (by kernel_rfl) rfl rfl rfl
 clear hd
 go_simp
 exact hK.out _ rfl _ _ (Below.refl _ _) rfl)
 refine Stab.todo_op (k := 10) (n := 27) (POne8 Y) hf.size hok.out rfl (POne8.stable Y) ?_ ?_
 · (
 intro fr1 w1 hh hd hk K hK
 refine Stab.op_plain (o := _) rfl rfl ?_
 have s22 := Stab.u 9 0 hd hk rfl [] (by kernel_rfl) rfl rfl rfl
 clear hd
 go_simp
 exact hK.out _ rfl _ _ ((Below.refl _ _).alloc (Nat.le_refl _) _) ⟨_, rfl, one_cell8 _ Y⟩)
 refine Tail.todo_tail (n := 27) (m := 11) (ws := [(11, 1, [10, 9, 8, 4, 3]), (11, 2, [10, 9, 8, 4, 3]), (11, 3, [10, 9, 8, 4]), (11, 4, [10, 9, 8]), (11, 5, [10, 9, 8, 7, 6]), (11, 6, [10, 9, 8, 7]), (11, 7, [10, 9, 8]), (11, 8, [10, 9]), (11, 9, [10])]) (by kernel_rfl) hf.size hok.out rfl rfl (by kernel_rfl) (fun fr1 w1 hh hg => ?_)
 replace s1 := Stab.o hh (by kernel_rfl) s1
 replace s2 := Stab.o hh (by kernel_rfl) s2
 replace s6 := Stab.o hh (by kernel_rfl) s6
 replace s7 := Stab.o hh (by kernel_rfl) s7
 replace s8 := Stab.o hh (by kernel_rfl) s8
 replace s9 := Stab.o hh (by kernel_rfl) s9
 replace s10 := Stab.o hh (by kernel_rfl) s10
 have s13 := Tail.got_is 0 10 hg rfl rfl rfl rfl rfl
 have s14 := Tail.got_is 1 9 hg rfl rfl rfl rfl rfl
 have s15 := Tail.got_is 2 8 hg rfl rfl rfl rfl rfl
 have s16 := Tail.got_is 3 7 hg rfl rfl rfl rfl rfl
 have s17 := Tail.got_is 4 6 hg rfl rfl rfl rfl rfl
 have s18 := Tail.got_is 5 5 hg rfl rfl rfl rfl rfl
 have s19 := Tail.got_is 6 4 hg rfl rfl rfl rfl rfl
 have s20 := Tail.got_is 7 3 hg rfl rfl rfl rfl rfl
 have s21 := Tail.got_is 8 2 hg rfl rfl rfl rfl rfl
 have s22 := Tail.got_is 9 1 hg rfl rfl rfl rfl rfl
 obtain ⟨x23, s23, hp23⟩ := Tail.got_use (j := 10) (m := 0) hg rfl rfl rfl rfl rfl
 obtain ⟨b23, rfl, hc23⟩ := hp23
 have hf1 : Fact.Fr 27 fr1 := ⟨hh.size.trans hf.size, hh.defers.trans hf.defers⟩
 have hx := hh.ext
 clear hg hh hf hok s5
 have hf := hf1; clear hf1
 have b24 := hf.l 24 rfl
 refine Tail.seq_op rfl rfl (fun K hK => ?_)
 refine wp_app8 _ _ rfl rfl W0.heap.size v _ Y (Fact.eval_tmp s13) (own_later ho hx) b23 (Fact.eval_tmp s23) hc23 (by rw [caps_length]; omega) (by have := hx.size; omega) (fun v2 w2 ho3 hg3 hb3 => ?_)
 refine hK.out _ _ ?_; clear hK K
 refine Tail.seq_op rfl rfl (fun K hK => ?_)
 go_simp
 refine hK.out _ _ ?_; clear hK K
 refine Tail.seq_nil rfl ?_
 refine Fact.q hf (by simp only [Fact.G]) rfl fun fr1 hf1 hT => ?_
 have hKp : _ ∧ _ ∧ _ ∧ _ ∧ _ ∧ _ ∧ _ ∧ _ ∧ _ ∧ _ ∧ _ ∧ _ ∧ _ ∧ _ ∧ _ ∧ _ ∧ _ ∧ _ ∧ _ ∧ _ := ⟨hT 1, hT 2, hT 5, hT 6, hT 7, hT 8, hT 9, hT 10, hT 13, hT 14, hT 15, hT 16, hT 17, hT 18, hT 19, hT 20, hT 21, hT 22, hT 23, hT 24⟩
 simp only [Fact.G, Nat.reduceEqDiff, Nat.reduceLT, hf.size, reduceIte, s1, s2, s6, s7, s8, s9, s10, s13, s14, s15, s16, s17, s18, s19, s20, s21, s22, s23] at hKp
 clear hT hf s1 s2 s6 s7 s8 s9 s10 s13 s14 s15 s16 s17 s18 s19 s20 s21 s22 s23 b24
 obtain ⟨s1, s2, s5, s6, s7, s8, s9, s10, s13, s14, s15, s16, s17, s18, s19, s20, s21, s22, s23, s24⟩ := hKp
 have hf := hf1; clear hf1
 refine Fact.block_normal ?_
 refine Fact.nx (hK7 _ _ ?_)
 refine Fact.region ?_
 have b11 := hf.l 11 rfl
 have b12 := hf.l 12 rfl
 refine Fact.p rfl fun K hK => ?_
 go_simp
 refine hK.out _ _ ?_; clear hK K
 refine Fact.p rfl fun K hK => ?_
 go_simp
 try simp (disch := omega) only [Fact.wrap_i64, Fact.wrap_u8, Fact.wrap_u32, Fact.wrap_u64]
 refine hK.out _ _ ?_; clear hK K
 refine Fact.p rfl fun K hK => ?_
 go_simp
 refine hK.out _ _ ?_; clear hK K
 refine Fact.nil ?_
 refine Fact.q hf (by simp only [Fact.G]) rfl fun fr1 hf1 hT => ?_
 have hKp : _ ∧ _ ∧ _ ∧ _ ∧ _ ∧ _ ∧ _ ∧ _ ∧ _ ∧ _ ∧ _ ∧ _ ∧ _ ∧ _ ∧ _ ∧ _ ∧ _ ∧ _ ∧ _ ∧ _ ∧ _ ∧ _ := ⟨hT 1, hT 2, hT 5, hT 6, hT 7, hT 8, hT 9, hT 10, hT 11, hT 12, hT 13, hT 14, hT 15, hT 16, hT 17, hT 18, hT 19, hT 20, hT 21, hT 22, hT 23, hT 24⟩
 simp only [Fact.G, Nat.reduceEqDiff, Nat.reduceLT, hf.size, reduceIte, s1, s2, s5, s7, s8, s9, s10, s13, s14, s15, s16, s17, s18, s19, s20, s21, s22, s23, s24] at hKp
 clear hT hf s1 s2 s5 s6 s7 s8 s9 s10 s13 s14 s15 s16 s17 s18 s19 s20 s21 s22 s23 s24 b11 b12
 obtain ⟨s1, s2, s5, s6, s7, s8, s9, s10, s11, s12, s13, s14, s15, s16, s17, s18, s19, s20, s21, s22, s23, s24⟩ := hKp
 have hf := hf1; clear hf1
 refine Fact.then_normal ?_
 exact ⟨_, by have := HK.out; omega, i + 1, _, rfl, by omega, hf, s1, s2, s5, by rw [s6]; rfl, by rw [caps_succ, HX.out, HY.out]; exact ho3, (hb.trans (hx.mono (by omega))).trans hb3⟩)
 · (
 have hie : i = n := by have h9 := of_decide_eq_false hq; omega
 subst hie
 obtain ⟨A, c8, rfl, hrow⟩ := OB.row ho
 have hcv := hrow.conv (c := c8)
 refine wp_exit ?_
 refine Fact.then_exit ?_
 refine Fact.then_exit ?_
 refine Fact.block_exit ?_
 refine Fact.nx (hK3 _ _ ?_)
 refine wp_seq_k (fun K8 hK8 => ?_)
 refine Fact.region ?_
 have b25 := hf.l 25 rfl
 have b26 := hf.l 26 rfl
 refine Fact.p rfl fun K hK => ?_
 go_simp
 refine hK.out _ _ ?_; clear hK K
 refine Fact.p rfl fun K hK => ?_
 go_simp
 refine hK.out _ _ ?_; clear hK K
 refine Fact.p rfl fun K hK => ?_
 go_simp
 refine hK.out _ _ ?_; clear hK K
 refine Fact.nil ?_
 refine Fact.q hf (by simp only [Fact.G]) rfl fun fr1 hf1 hT => ?_
 have hKp := hT 4
 simp only [Fact.G, Nat.reduceEqDiff, Nat.reduceLT, hf.size, reduceIte] at hKp
 clear hT hf s1 s2 s5 s6 s7 s8 s9 s10 b25 b26
 have s4 := hKp; clear hKp
 have hf := hf1; clear hf1
 refine Fact.nx (hK8 _ _ ?_)
 refine wp_ret ?_
 exact Fact.ret1 rfl hf s4 ⟨rfl, hb0.trans (hb.mono hb0.size)⟩))
end Lv
end Go.Proofs.Ytfgfichkcckhiaa
