/- Lev: LevBounds. -/
import Derived.Test.YtfgfichkcckhiaaLTable
import Derived.Test.YtfgfichkcckhiaaLBound
namespace Go.Proofs.Ytfgfichkcckhiaa
open Go.RowKit
set_option linter.unusedSimpArgs false
set_option linter.unusedVariables false
set_option linter.unnecessarySimpa false
namespace Lv
set_option maxHeartbeats 4000000 in
set_option maxRecDepth 100000 in
theorem bounds5 (Q T0 : ByteArray) (z z2 : Int) (hz : -128 ≤ z ∧ z ≤ 127) (hz2 : -128 ≤ z2 ∧ z2 ≤ 127) (w : World) : Calls Try.prog 5 #[.agg #[.string Q, .string T0, .int .i8 z], .int .i8 z2] w fun e w1 => e = .returned (.bool true) ∧ Below w.heap.size w w1 := by
 refine calls_of_wp Try.func5 rfl ?_
 refine Fact.enter (n := 147) (by kernel_rfl) (fun fr hf hT => ?_)
 have s0 := hT 0 _ rfl
 have s1 := hT 1 _ rfl
 clear hT
 obtain ⟨W0, hW0⟩ : ∃ W0, w.alloc (.cells #[.string Q, .string T0, .int .i8 z] 24) = W0 := ⟨_, rfl⟩
 have hb0 : Below w.heap.size w W0 := by rw [← hW0]; exact (Below.refl _ _).alloc (Nat.le_refl _) _
 have hc0 := ask_cells w Q T0 z W0 hW0
 obtain ⟨x0, x1, x2⟩ := hc0
 refine wp_seq_k (fun K1 hK1 => ?_)
 refine Fact.region ?_
 refine Fact.p rfl fun K hK => ?_
 go_simp
 refine hK.out _ _ ?_; clear hK K
 refine Fact.p rfl fun K hK => ?_
 go_simp
 refine hK.out _ _ ?_; clear hK K
 refine Fact.nil ?_
 refine Fact.reQ (n := 147) (by simp only [Fact.G, hf.size]) hf.defers (fun fr1 hf1 hT => ?_)
 have hKp : _ ∧ _ ∧ _ := ⟨hT 1, hT 2, hT 4⟩
 simp only [Fact.G, Nat.reduceEqDiff, Nat.reduceLT, reduceIte, hf.size, s1] at hKp
 clear hT hf s0 s1
 obtain ⟨s1, s2, s4⟩ := hKp
 have hf := hf1; clear hf1
 refine Fact.then_normal ?_
 refine hK1 _ _ ?_
 try rw [hW0]
 clear hW0
 refine wp_seq_k (fun K2 hK2 => ?_)
 refine wp_seq_k (fun K3 hK3 => ?_)
 refine Fact.region ?_
 have b20 := hf.l 20 rfl
 refine Fact.p rfl fun K hK => ?_
 go_simp
 go_at_call 20; refine (works20 W0).mono ?_; rintro e w1 ⟨rfl, h1⟩
 dsimp only
 refine hK.out _ _ ?_; clear hK K
 refine Fact.p rfl fun K hK => ?_
 go_simp
 refine hK.out _ _ ?_; clear hK K
 refine Fact.nil ?_
 refine Fact.reQ (n := 147) (by simp only [Fact.G, hf.size]) hf.defers (fun fr1 hf1 hT => ?_)
 have hKp : _ ∧ _ ∧ _ ∧ _ := ⟨hT 1, hT 2, hT 4, hT 21⟩
 simp only [Fact.G, Nat.reduceEqDiff, Nat.reduceLT, reduceIte, hf.size, s1, s2, s4] at hKp
 clear hT hf s1 s2 s4 b20
 obtain ⟨s1, s2, s4, s21⟩ := hKp
 have hf := hf1; clear hf1
 refine Fact.then_normal ?_
 refine hK3 _ _ ?_
 try simp only [Bool.not_true] at s21
 refine Fact.cond_f s21 ?_
 refine wp_skip ?_
 refine Fact.then_normal ?_
 refine hK2 _ _ ?_
 have hb1 := hb0.trans (h1.mono hb0.size)
 have y0 := cell_later h1 x0; have y1 := cell_later h1 x1; have y2 := cell_later h1 x2
 clear x0 x1 x2
 refine wp_seq_k (fun K4 hK4 => ?_)
 refine Fact.region ?_
 have b22 := hf.l 22 rfl
 have b5 := hf.l 5 rfl
 refine Fact.p rfl fun K hK => ?_
 go_simp
 refine hK.out _ _ ?_; clear hK K
 refine Fact.p rfl fun K hK => ?_
 go_simp
 refine hK.out _ _ ?_; clear hK K
 refine Fact.p rfl fun K hK => ?_
 go_simp
 refine hK.out _ _ ?_; clear hK K
 refine Fact.nil ?_
 refine Fact.reQ (n := 147) (by simp only [Fact.G, hf.size]) hf.defers (fun fr1 hf1 hT => ?_)
 have hKp : _ ∧ _ ∧ _ ∧ _ := ⟨hT 1, hT 2, hT 4, hT 5⟩
 simp only [Fact.G, Nat.reduceEqDiff, Nat.reduceLT, reduceIte, hf.size, s1, s2, s4] at hKp
 clear hT hf s1 s2 s4 s21 b22 b5
 obtain ⟨s1, s2, s4, s5⟩ := hKp
 have hf := hf1; clear hf1
 refine Fact.then_normal ?_
 refine hK4 _ _ ?_
 refine wp_seq_k (fun K5 hK5 => ?_)
 refine Fact.region ?_
 have b23 := hf.l 23 rfl
 have b24 := hf.l 24 rfl
 refine Fact.p rfl fun K hK => ?_
 go_simp
 refine hK.out _ _ ?_; clear hK K
 refine Fact.p rfl fun K hK => ?_
 go_simp
 refine hK.out _ _ ?_; clear hK K
 refine Fact.p rfl fun K hK => ?_
 go_simp
 refine hK.out _ _ ?_; clear hK K
 refine Fact.nil ?_
 refine Fact.reQ (n := 147) (by simp only [Fact.G, hf.size]) hf.defers (fun fr1 hf1 hT => ?_)
 have hKp : _ ∧ _ ∧ _ := ⟨hT 2, hT 4, hT 5⟩
 simp only [Fact.G, Nat.reduceEqDiff, Nat.reduceLT, reduceIte, s2, s4, s5] at hKp
 clear hT hf s1 s2 s4 s5 b23 b24
 obtain ⟨s2, s4, s5⟩ := hKp
 have hf := hf1; clear hf1
 refine Fact.then_normal ?_
 refine hK5 _ _ ?_
 obtain ⟨W1, hW1⟩ : ∃ W1, w1.alloc (.cells #[.string Q, .string T0, .int .i8 z2] 24) = W1 := ⟨_, rfl⟩
 have hb2 : Below w1.heap.size w1 W1 := by rw [← hW1]; exact (Below.refl _ _).alloc (Nat.le_refl _) _
 obtain ⟨v0, v1, v2⟩ := ask_cells w1 Q T0 z2 W1 hW1
 have y0 := cell_later hb2 y0; have y1 := cell_later hb2 y1; have y2 := cell_later hb2 y2
 rw [hW1]
 clear hW1
 have hb3 := hb1.trans (hb2.mono hb1.size)
 obtain ⟨k, hk⟩ : ∃ k, min (bnd z) (bnd z2) = k := ⟨_, rfl⟩
 obtain ⟨m, hm⟩ : ∃ m, max (bnd z) (bnd z2) = m := ⟨_, rfl⟩
 have e1 : min (bnd z : Int) (bnd z2 : Int) = (k : Int) := by omega
 have e2 : max (bnd z : Int) (bnd z2 : Int) = (m : Int) := by omega
 have hkm : k ≤ m := by omega
 have hm3 : m ≤ 3 := by have := bnd_le z; have := bnd_le z2; omega
 clear hk hm
 refine wp_seq_k (fun K6 hK6 => ?_)
 refine Stab.todo_begin (n := 147) (Stab.OkOps.of (by kernel_rfl)) (fun hok => ?_)
 apply Stab.t 0 _ hf.size hok.out rfl
 ·
  intro fr1 w1 hh hd hk K hK
  refine Stab.op_plain (o := _) rfl rfl ?_
  have s2 := Stab.o hh (by kernel_rfl) s2
  clear hd
  have u0 := cell_later hh.ext y0; have u1 := cell_later hh.ext y1; have u2 := cell_later hh.ext y2
  go_simp
  exact hK.out _ rfl _ _ (Below.refl _ _) rfl
 apply Stab.t 1 _ hf.size hok.out rfl
 ·
  intro fr1 w1 hh hd hk K hK
  refine Stab.op_plain (o := _) rfl rfl ?_
  have s25 := Stab.u 0 0 hd hk rfl [] (by kernel_rfl) rfl rfl rfl
  clear hd
  go_simp
  go_at_call 12; refine (bound12 Q T0 z hz w1).mono ?_; rintro e w2 ⟨rfl, hb⟩
  exact hK.out _ rfl _ _ hb rfl
 apply Stab.t 2 _ hf.size hok.out rfl
 ·
  intro fr1 w1 hh hd hk K hK
  refine Stab.op_plain (o := _) rfl rfl ?_
  have s5 := Stab.o hh (by kernel_rfl) s5
  clear hd
  have u0 := cell_later hh.ext v0; have u1 := cell_later hh.ext v1; have u2 := cell_later hh.ext v2
  go_simp
  exact hK.out _ rfl _ _ (Below.refl _ _) rfl
 apply Stab.t 3 _ hf.size hok.out rfl
 ·
  intro fr1 w1 hh hd hk K hK
  refine Stab.op_plain (o := _) rfl rfl ?_
  have s27 := Stab.u 2 0 hd hk rfl [] (by kernel_rfl) rfl rfl rfl
  clear hd
  go_simp
  go_at_call 12; refine (bound12 Q T0 z2 hz2 w1).mono ?_; rintro e w2 ⟨rfl, hb⟩
  exact hK.out _ rfl _ _ hb rfl
 apply Stab.t 4 _ hf.size hok.out rfl
 ·
  intro fr1 w1 hh hd hk K hK
  refine Stab.op_plain (o := _) rfl rfl ?_
  have s26 := Stab.u 1 2 hd hk rfl [] (by kernel_rfl) rfl rfl rfl
  have s28 := Stab.u 3 0 hd hk rfl [] (by kernel_rfl) rfl rfl rfl
  clear hd
  go_simp
  try simp only [e1]
  exact hK.out _ rfl _ _ (Below.refl _ _) rfl
 apply Stab.t 5 _ hf.size hok.out rfl
 ·
  intro fr1 w1 hh hd hk K hK
  refine Stab.op_plain (o := _) rfl rfl ?_
  have s2 := Stab.o hh (by kernel_rfl) s2
  clear hd
  have u0 := cell_later hh.ext y0; have u1 := cell_later hh.ext y1; have u2 := cell_later hh.ext y2
  go_simp
  exact hK.out _ rfl _ _ (Below.refl _ _) rfl
 apply Stab.t 6 _ hf.size hok.out rfl
 ·
  intro fr1 w1 hh hd hk K hK
  refine Stab.op_plain (o := _) rfl rfl ?_
  have s30 := Stab.u 5 0 hd hk rfl [] (by kernel_rfl) rfl rfl rfl
  clear hd
  go_simp
  go_at_call 12; refine (bound12 Q T0 z hz w1).mono ?_; rintro e w2 ⟨rfl, hb⟩
  exact hK.out _ rfl _ _ hb rfl
 apply Stab.t 7 _ hf.size hok.out rfl
 ·
  intro fr1 w1 hh hd hk K hK
  refine Stab.op_plain (o := _) rfl rfl ?_
  have s5 := Stab.o hh (by kernel_rfl) s5
  clear hd
  have u0 := cell_later hh.ext v0; have u1 := cell_later hh.ext v1; have u2 := cell_later hh.ext v2
  go_simp
  exact hK.out _ rfl _ _ (Below.refl _ _) rfl
 apply Stab.t 8 _ hf.size hok.out rfl
 ·
  intro fr1 w1 hh hd hk K hK
  refine Stab.op_plain (o := _) rfl rfl ?_
  have s32 := Stab.u 7 0 hd hk rfl [] (by kernel_rfl) rfl rfl rfl
  clear hd
  go_simp
  go_at_call 12; refine (bound12 Q T0 z2 hz2 w1).mono ?_; rintro e w2 ⟨rfl, hb⟩
  exact hK.out _ rfl _ _ hb rfl
 apply Stab.t 9 _ hf.size hok.out rfl
 ·
  intro fr1 w1 hh hd hk K hK
  refine Stab.op_plain (o := _) rfl rfl ?_
  have s31 := Stab.u 6 2 hd hk rfl [] (by kernel_rfl) rfl rfl rfl
  have s33 := Stab.u 8 0 hd hk rfl [] (by kernel_rfl) rfl rfl rfl
  clear hd
  go_simp
  try simp only [e2]
  exact hK.out _ rfl _ _ (Below.refl _ _) rfl
 refine Stab.mvN (k := 10) (j := 4) (m := 5) hf.size hok.out rfl rfl rfl (.inr rfl) rfl [] (by kernel_rfl) rfl rfl rfl ?_
 refine Stab.mvN (k := 11) (j := 9) (m := 1) hf.size hok.out rfl rfl rfl (.inr rfl) rfl [] (by kernel_rfl) rfl rfl rfl ?_
 refine Stab.todo_facts (n := 147) (by kernel_rfl) hf.size hok.out rfl (fun fr1 w1 hh hg => ?_)
 replace s2 := Stab.o hh (by kernel_rfl) s2
 replace s4 := Stab.o hh (by kernel_rfl) s4
 have s6 := Stab.e 10 1 hg rfl rfl rfl rfl
 have s7 := Stab.e 11 0 hg rfl rfl rfl rfl
 have hf1 : Fact.Fr 147 fr1 := ⟨hh.size.trans hf.size, hh.defers.trans hf.defers⟩
 have hx := hh.ext
 clear hg hh hf hok s5
 have hf := hf1; clear hf1
 refine Fact.then_normal ?_
 refine hK6 _ _ ?_
 have hb4 := hb3.trans (hx.mono hb3.size)
 have x0 := cell_later hx y0; have x1 := cell_later hx y1
 clear y0 y1 y2 v0 v1 v2 e1 e2 hb2 hx
 refine wp_seq_k (fun K7 hK7 => ?_)
 refine Stab.todo_begin (n := 147) (Stab.OkOps.of (by kernel_rfl)) (fun hok => ?_)
 apply Stab.t 0 _ hf.size hok.out rfl
 ·
  intro fr1 w1 hh hd hk K hK
  refine Stab.op_plain (o := _) rfl rfl ?_
  have s2 := Stab.o hh (by kernel_rfl) s2
  clear hd
  go_simp
  exact hK.out _ rfl _ _ (Below.refl _ _) rfl
 apply Stab.t 1 _ hf.size hok.out rfl
 ·
  intro fr1 w1 hh hd hk K hK
  refine Stab.op_plain (o := _) rfl rfl ?_
  have s35 := Stab.u 0 0 hd hk rfl [] (by kernel_rfl) rfl rfl rfl
  clear hd
  have u0 := cell_later hh.ext x0
  go_simp
  exact hK.out _ rfl _ _ (Below.refl _ _) rfl
 apply Stab.t 2 _ hf.size hok.out rfl
 ·
  intro fr1 w1 hh hd hk K hK
  refine Stab.op_plain (o := _) rfl rfl ?_
  have s36 := Stab.u 1 0 hd hk rfl [] (by kernel_rfl) rfl rfl rfl
  clear hd
  go_simp
  go_at_call 9; refine (few9b Q 60 w1).mono ?_; rintro e w2 ⟨rfl, hb⟩
  exact hK.out _ rfl _ _ hb rfl
 apply Stab.t 3 _ hf.size hok.out rfl
 ·
  intro fr1 w1 hh hd hk K hK
  refine Stab.op_plain (o := _) rfl rfl ?_
  have s2 := Stab.o hh (by kernel_rfl) s2
  clear hd
  go_simp
  exact hK.out _ rfl _ _ (Below.refl _ _) rfl
 apply Stab.t 4 _ hf.size hok.out rfl
 ·
  intro fr1 w1 hh hd hk K hK
  refine Stab.op_plain (o := _) rfl rfl ?_
  have s38 := Stab.u 3 0 hd hk rfl [] (by kernel_rfl) rfl rfl rfl
  clear hd
  have u0 := cell_later hh.ext x1
  go_simp
  exact hK.out _ rfl _ _ (Below.refl _ _) rfl
 apply Stab.t 5 _ hf.size hok.out rfl
 ·
  intro fr1 w1 hh hd hk K hK
  refine Stab.op_plain (o := _) rfl rfl ?_
  have s39 := Stab.u 4 0 hd hk rfl [] (by kernel_rfl) rfl rfl rfl
  clear hd
  go_simp
  go_at_call 9; refine (few9b T0 60 w1).mono ?_; rintro e w2 ⟨rfl, hb⟩
  exact hK.out _ rfl _ _ hb rfl
 refine Stab.mvN (k := 6) (j := 2) (m := 3) hf.size hok.out rfl rfl rfl (.inr rfl) rfl [] (by kernel_rfl) rfl rfl rfl ?_
 refine Stab.mvN (k := 7) (j := 5) (m := 1) hf.size hok.out rfl rfl rfl (.inr rfl) rfl [] (by kernel_rfl) rfl rfl rfl ?_
 refine Stab.todo_facts (n := 147) (by kernel_rfl) hf.size hok.out rfl (fun fr1 w1 hh hg => ?_)
 replace s4 := Stab.o hh (by kernel_rfl) s4
 replace s6 := Stab.o hh (by kernel_rfl) s6
 replace s7 := Stab.o hh (by kernel_rfl) s7
 have s8 := Stab.e 6 1 hg rfl rfl rfl rfl
 have s9 := Stab.e 7 0 hg rfl rfl rfl rfl
 have hf1 : Fact.Fr 147 fr1 := ⟨hh.size.trans hf.size, hh.defers.trans hf.defers⟩
 have hx := hh.ext
 clear hg hh hf hok s2
 have hf := hf1; clear hf1
 refine Fact.then_normal ?_
 refine hK7 _ _ ?_
 have hb5 := hb4.trans (hx.mono hb4.size)
 obtain ⟨q, hq⟩ : ∃ q, few Q 60 = q := ⟨_, rfl⟩
 obtain ⟨t, ht⟩ : ∃ t, few T0 60 = t := ⟨_, rfl⟩
 have hq60 : q.size ≤ 60 := by rw [← hq]; exact few_size _ _
 have ht60 : t.size ≤ 60 := by rw [← ht]; exact few_size _ _
 rw [hq] at s8; rw [ht] at s9
 clear hq ht x0 x1 hx
 refine wp_seq_k (fun K8 hK8 => ?_)
 refine Fact.region ?_
 have b41 := hf.l 41 rfl
 have b42 := hf.l 42 rfl
 have b43 := hf.l 43 rfl
 have b44 := hf.l 44 rfl
 have b45 := hf.l 45 rfl
 have b46 := hf.l 46 rfl
 refine Fact.p rfl fun K hK => ?_
 go_simp
 refine hK.out _ _ ?_; clear hK K
 refine Fact.p rfl fun K hK => ?_
 go_simp
 refine hK.out _ _ ?_; clear hK K
 refine Fact.p rfl fun K hK => ?_
 go_simp
 go_at_call 10; refine (new10 q k (by omega) (by omega) w1).mono ?_; rintro e w2 ⟨g, rfl, hA2, hg2, h2⟩
 dsimp only
 refine hK.out _ _ ?_; clear hK K
 refine Fact.p rfl fun K hK => ?_
 go_simp
 refine hK.out _ _ ?_; clear hK K
 refine Fact.p rfl fun K hK => ?_
 go_simp
 refine hK.out _ _ ?_; clear hK K
 refine Fact.p rfl fun K hK => ?_
 go_simp
 go_at_call 10; refine (new10 q m (by omega) hm3 w2).mono ?_; rintro e w3 ⟨u, rfl, hB3, hu3, h3⟩
 dsimp only
 refine hK.out _ _ ?_; clear hK K
 refine Fact.p rfl fun K hK => ?_
 go_simp
 refine hK.out _ _ ?_; clear hK K
 refine Fact.p rfl fun K hK => ?_
 go_simp
 refine hK.out _ _ ?_; clear hK K
 refine Fact.nil ?_
 refine Fact.reQ (n := 147) (by simp only [Fact.G, hf.size]) hf.defers (fun fr1 hf1 hT => ?_)
 have hKp : _ ∧ _ ∧ _ ∧ _ ∧ _ := ⟨hT 4, hT 6, hT 9, hT 10, hT 11⟩
 simp only [Fact.G, Nat.reduceEqDiff, Nat.reduceLT, reduceIte, hf.size, s4, s6, s9] at hKp
 clear hT hf s4 s6 s7 s8 s9 b41 b42 b43 b44 b45 b46
 obtain ⟨s4, s6, s9, s10, s11⟩ := hKp
 have hf := hf1; clear hf1
 refine Fact.then_normal ?_
 refine hK8 _ _ ?_
 have hb6 := (hb5.trans (h2.mono hb5.size)).trans (h3.mono (by have := h2.size; have := hb5.size; omega))
 have hA3 := hA2.later h3
 clear hA2
 refine wp_seq_k (fun K9 hK9 => ?_)
 refine wp_seq_k (fun K10 hK10 => ?_)
 refine Fact.region ?_
 have b47 := hf.l 47 rfl
 have b48 := hf.l 48 rfl
 have b49 := hf.l 49 rfl
 have b50 := hf.l 50 rfl
 have b51 := hf.l 51 rfl
 refine Fact.p rfl fun K hK => ?_
 go_simp
 refine hK.out _ _ ?_; clear hK K
 refine Fact.p rfl fun K hK => ?_
 go_simp
 refine hK.out _ _ ?_; clear hK K
 refine Fact.p rfl fun K hK => ?_
 go_simp
 refine hK.out _ _ ?_; clear hK K
 refine Fact.op_guard (g := 2) (d := 49) (b := false) rfl rfl rfl ?_ (fun K hK => ?_)
 ·
  simp only [Fact.G, Nat.reduceEqDiff, Nat.reduceLT, reduceIte, hf.size]
 go_simp
 refine hK.out _ _ ?_; clear hK K
 refine Fact.op_guard (g := 2) (d := 49) (b := false) rfl rfl rfl ?_ (fun K hK => ?_)
 ·
  simp only [Fact.G, Nat.reduceEqDiff, Nat.reduceLT, reduceIte, hf.size]
 go_simp
 refine hK.out _ _ ?_; clear hK K
 refine Fact.p rfl fun K hK => ?_
 go_simp
 refine hK.out _ _ ?_; clear hK K
 refine Fact.nil ?_
 refine Fact.reQ (n := 147) (by simp only [Fact.G, hf.size]) hf.defers (fun fr1 hf1 hT => ?_)
 have hKp : _ ∧ _ ∧ _ ∧ _ ∧ _ ∧ _ := ⟨hT 4, hT 6, hT 9, hT 10, hT 11, hT 52⟩
 simp only [Fact.G, Nat.reduceEqDiff, Nat.reduceLT, reduceIte, hf.size, s4, s6, s9, s10, s11] at hKp
 clear hT hf s4 s6 s9 s10 s11 b47 b48 b49 b50 b51
 obtain ⟨s4, s6, s9, s10, s11, s52⟩ := hKp
 have hf := hf1; clear hf1
 refine Fact.then_normal ?_
 refine hK10 _ _ ?_
 refine Fact.cond_f s52 ?_
 refine wp_skip ?_
 refine Fact.then_normal ?_
 refine hK9 _ _ ?_
 refine wp_seq_k (fun K11 hK11 => ?_)
 refine Fact.region ?_
 have b53 := hf.l 53 rfl
 have b54 := hf.l 54 rfl
 have b55 := hf.l 55 rfl
 have b56 := hf.l 56 rfl
 refine Fact.p rfl fun K hK => ?_
 go_simp
 refine hK.out _ _ ?_; clear hK K
 refine Fact.p rfl fun K hK => ?_
 go_simp
 go_at_call 13; refine (start13 w3 g q k hA3).mono ?_; rintro e w4 ⟨rfl, h4⟩
 dsimp only
 refine hK.out _ _ ?_; clear hK K
 refine Fact.p rfl fun K hK => ?_
 go_simp
 refine hK.out _ _ ?_; clear hK K
 refine Fact.p rfl fun K hK => ?_
 go_simp
 go_at_call 13; refine (start13 w4 u q m (hB3.later h4)).mono ?_; rintro e w5 ⟨rfl, h5⟩
 dsimp only
 refine hK.out _ _ ?_; clear hK K
 refine Fact.p rfl fun K hK => ?_
 go_simp
 refine hK.out _ _ ?_; clear hK K
 refine Fact.p rfl fun K hK => ?_
 go_simp
 refine hK.out _ _ ?_; clear hK K
 refine Fact.nil ?_
 refine Fact.reQ (n := 147) (by simp only [Fact.G, hf.size]) hf.defers (fun fr1 hf1 hT => ?_)
 have hKp : _ ∧ _ ∧ _ ∧ _ ∧ _ ∧ _ ∧ _ := ⟨hT 4, hT 6, hT 9, hT 10, hT 11, hT 12, hT 13⟩
 simp only [Fact.G, Nat.reduceEqDiff, Nat.reduceLT, reduceIte, hf.size, s4, s6, s9, s10, s11] at hKp
 clear hT hf s4 s6 s9 s10 s11 s52 b53 b54 b55 b56
 obtain ⟨s4, s6, s9, s10, s11, s12, s13⟩ := hKp
 have hf := hf1; clear hf1
 refine Fact.then_normal ?_
 refine hK11 _ _ ?_
 have hb7 := (hb6.trans (h4.mono hb6.size)).trans (h5.mono (by have := h4.size; have := hb6.size; omega))
 have hA5 := (hA3.later h4).later h5
 have hB5 := (hB3.later h4).later h5
 clear hA3 hB3 hb6 hb5 hb4 hb3 hb1 hb0 h1 h2 h3 h4 h5 hg2 hu3
 refine wp_seq_k (fun K12 hK12 => ?_)
 refine wp_seq_k (fun K13 hK13 => ?_)
 refine Fact.region ?_
 refine Fact.p rfl fun K hK => ?_
 go_simp
 refine hK.out _ _ ?_; clear hK K
 refine Fact.nil ?_
 refine Fact.reQ (n := 147) (by simp only [Fact.G, hf.size]) hf.defers (fun fr1 hf1 hT => ?_)
 have hKp : _ ∧ _ ∧ _ ∧ _ ∧ _ ∧ _ ∧ _ ∧ _ := ⟨hT 4, hT 6, hT 9, hT 10, hT 11, hT 12, hT 13, hT 14⟩
 simp only [Fact.G, Nat.reduceEqDiff, Nat.reduceLT, reduceIte, hf.size, s4, s6, s9, s10, s11, s12, s13] at hKp
 clear hT hf s4 s6 s9 s10 s11 s12 s13
 obtain ⟨s4, s6, s9, s10, s11, s12, s13, s14⟩ := hKp
 have hf := hf1; clear hf1
 refine Fact.then_normal ?_
 refine hK13 _ _ ?_
 refine wp_block ?_
 refine wp_loop_ghost (fun g1 fr wr => ∃ (i : Nat) (S T : ByteArray), g1 = t.size + 1 - i ∧ i ≤ t.size + 1 ∧ (i ≤ t.size → S = readN q k (startS q k) t i ∧ T = readN q m (startS q m) t i) ∧ Fact.Fr 147 fr ∧ fr.tmps[6]? = some (.int .i64 k) ∧ fr.tmps[9]? = some (.string t) ∧ fr.tmps[10]? = some (.pointer (some ⟨g, 0, none⟩)) ∧ fr.tmps[11]? = some (.pointer (some ⟨u, 0, none⟩)) ∧ fr.tmps[12]? = some (.string S) ∧ fr.tmps[13]? = some (.string T) ∧ fr.tmps[14]? = some (.int .i64 i) ∧ Below w5.heap.size w5 wr) (t.size + 1) ?_ ?_
 ·
  exact ⟨0, _, _, rfl, Nat.zero_le _, fun _ => ⟨rfl, rfl⟩, hf, s6, s9, s10, s11, s12, s13, s14, Below.refl _ _⟩
 ·
  clear hf s4 s6 s9 s10 s11 s12 s13 s14
  rintro g1 fr wr ⟨i, S, T, hk1, hi, hST, hf, s6, s9, s10, s11, s12, s13, s14, hbr⟩
  have HK := Lib.hid hk1; clear hk1
  have HST := Lib.hid hST; clear hST
  have hAr := hA5.later hbr; have hBr := hB5.later hbr
  refine wp_seq_k (fun K14 hK14 => ?_)
  refine wp_seq_k (fun K15 hK15 => ?_)
  refine Fact.region ?_
  have b57 := hf.l 57 rfl
  have b58 := hf.l 58 rfl
  have b59 := hf.l 59 rfl
  refine Fact.p rfl fun K hK => ?_
  go_simp
  refine hK.out _ _ ?_; clear hK K
  refine Fact.p rfl fun K hK => ?_
  go_simp
  refine hK.out _ _ ?_; clear hK K
  refine Fact.p rfl fun K hK => ?_
  go_simp
  refine hK.out _ _ ?_; clear hK K
  refine Fact.p rfl fun K hK => ?_
  go_simp
  refine hK.out _ _ ?_; clear hK K
  refine Fact.nil ?_
  refine Fact.reQ (n := 147) (by simp only [Fact.G, hf.size]) hf.defers (fun fr1 hf1 hT => ?_)
  have hKp : _ ∧ _ ∧ _ ∧ _ ∧ _ ∧ _ ∧ _ ∧ _ ∧ _ ∧ _ ∧ _ := ⟨hT 6, hT 9, hT 10, hT 11, hT 12, hT 13, hT 14, hT 57, hT 58, hT 59, hT 60⟩
  simp only [Fact.G, Nat.reduceEqDiff, Nat.reduceLT, reduceIte, hf.size, s6, s9, s10, s11, s12, s13, s14] at hKp
  clear hT hf s6 s9 s10 s11 s12 s13 s14 b57 b58 b59
  obtain ⟨s6, s9, s10, s11, s12, s13, s14, s57, s58, s59, s60⟩ := hKp
  have hf := hf1; clear hf1
  refine Fact.then_normal ?_
  refine hK15 _ _ ?_
  refine Fact.cond_s s60 (fun hq => ?_) (fun hq => ?_)
  ·
   have hit : i ≤ t.size := by have h9 := of_decide_eq_true hq; omega
   obtain ⟨hS, hT⟩ := HST.out hit
   have hokS : okS q k S = true := by rw [hS]; exact readN_ok (start_ok (by omega)) (by omega) _
   have hokT : okS q m T = true := by rw [hT]; exact readN_ok (start_ok hm3) hm3 _
   have hsz := okS_size hokS; have hszT := okS_size hokT
   have hcap : ∀ j, j ≤ q.size → at_ S j = min (at_ T j) (k + 1) := fun j hj => by rw [hS, hT]; exact caps hkm hm3 t i j hj
   have HS := Lib.hid hS; have HT := Lib.hid hT; have HC := Lib.hid hcap; clear hS hT hcap
   have e1 : IntKind.i64.wrap ((i : Int) + 1) = ((i + 1 : Nat) : Int) := by rw [Fact.wrap_i64 (by omega) (by omega)]; omega
   refine wp_skip ?_
   refine Fact.then_normal ?_
   refine hK14 _ _ ?_
   refine wp_seq_k (fun K16 hK16 => ?_)
   refine wp_block ?_
   refine wp_seq_k (fun K17 hK17 => ?_)
   refine wp_seq_k (fun K18 hK18 => ?_)
   refine Fact.region ?_
   have b63 := hf.l 63 rfl
   have b64 := hf.l 64 rfl
   have b65 := hf.l 65 rfl
   have b66 := hf.l 66 rfl
   refine Fact.p rfl fun K hK => ?_
   go_simp
   refine hK.out _ _ ?_; clear hK K
   refine Fact.p rfl fun K hK => ?_
   go_simp
   refine hK.out _ _ ?_; clear hK K
   refine Fact.p rfl fun K hK => ?_
   go_simp
   refine hK.out _ _ ?_; clear hK K
   refine Fact.p rfl fun K hK => ?_
   go_simp
   refine hK.out _ _ ?_; clear hK K
   refine Fact.p rfl fun K hK => ?_
   go_simp
   refine hK.out _ _ ?_; clear hK K
   refine Fact.nil ?_
   refine Fact.reQ (n := 147) (by simp only [Fact.G, hf.size]) hf.defers (fun fr1 hf1 hT => ?_)
   have hKp : _ ∧ _ ∧ _ ∧ _ ∧ _ ∧ _ ∧ _ ∧ _ ∧ _ ∧ _ ∧ _ ∧ _ ∧ _ ∧ _ ∧ _ ∧ _ := ⟨hT 6, hT 9, hT 10, hT 11, hT 12, hT 13, hT 14, hT 57, hT 58, hT 59, hT 60, hT 63, hT 64, hT 65, hT 66, hT 67⟩
   simp only [Fact.G, Nat.reduceEqDiff, Nat.reduceLT, reduceIte, hf.size, s6, s9, s10, s11, s12, s13, s14, s57, s58, s59, s60] at hKp
   clear hT hf s6 s9 s10 s11 s12 s13 s14 s57 s58 s59 s60 b63 b64 b65 b66
   obtain ⟨s6, s9, s10, s11, s12, s13, s14, s57, s58, s59, s60, s63, s64, s65, s66, s67⟩ := hKp
   have hf := hf1; clear hf1
   refine Fact.then_normal ?_
   refine hK18 _ _ ?_
   try simp [hsz, hszT] at s67
   refine Fact.cond_f s67 ?_
   refine wp_skip ?_
   refine Fact.then_normal ?_
   refine hK17 _ _ ?_
   refine wp_seq_k (fun K19 hK19 => ?_)
   refine wp_seq_k (fun K20 hK20 => ?_)
   refine Fact.region ?_
   refine Fact.p rfl fun K hK => ?_
   go_simp
   refine hK.out _ _ ?_; clear hK K
   refine Fact.nil ?_
   refine Fact.reQ (n := 147) (by simp only [Fact.G, hf.size]) hf.defers (fun fr1 hf1 hT => ?_)
   have hKp : _ ∧ _ ∧ _ ∧ _ ∧ _ ∧ _ ∧ _ ∧ _ ∧ _ ∧ _ ∧ _ ∧ _ ∧ _ ∧ _ ∧ _ ∧ _ ∧ _ := ⟨hT 6, hT 9, hT 10, hT 11, hT 12, hT 13, hT 14, hT 15, hT 57, hT 58, hT 59, hT 60, hT 63, hT 64, hT 65, hT 66, hT 67⟩
   simp only [Fact.G, Nat.reduceEqDiff, Nat.reduceLT, reduceIte, hf.size, s6, s9, s10, s11, s12, s13, s14, s57, s58, s59, s60, s63, s64, s65, s66, s67] at hKp
   clear hT hf s6 s9 s10 s11 s12 s13 s14 s57 s58 s59 s60 s63 s64 s65 s66 s67
   obtain ⟨s6, s9, s10, s11, s12, s13, s14, s15, s57, s58, s59, s60, s63, s64, s65, s66, s67⟩ := hKp
   have hf := hf1; clear hf1
   refine Fact.then_normal ?_
   refine hK20 _ _ ?_
   refine wp_block ?_
   refine wp_loop_ghost (fun g2 fr wr2 => ∃ n : Nat, g2 = q.size + 1 - n ∧ n ≤ q.size + 1 ∧ Fact.Fr 147 fr ∧ fr.tmps[6]? = some (.int .i64 k) ∧ fr.tmps[9]? = some (.string t) ∧ fr.tmps[10]? = some (.pointer (some ⟨g, 0, none⟩)) ∧ fr.tmps[11]? = some (.pointer (some ⟨u, 0, none⟩)) ∧ fr.tmps[12]? = some (.string S) ∧ fr.tmps[13]? = some (.string T) ∧ fr.tmps[14]? = some (.int .i64 i) ∧ fr.tmps[15]? = some (.int .i64 n) ∧ Below wr.heap.size wr wr2) (q.size + 1) ?_ ?_
   ·
    exact ⟨0, rfl, Nat.zero_le _, hf, s6, s9, s10, s11, s12, s13, s14, s15, Below.refl _ _⟩
   ·
    clear hf s6 s9 s10 s11 s12 s13 s14 s15 s57 s58 s59 s60 s63 s64 s65 s66 s67
    rintro g2 fr wr2 ⟨n, hk2, hn, hf, s6, s9, s10, s11, s12, s13, s14, s15, hbi⟩
    have HK2 := Lib.hid hk2; clear hk2
    have hbr := hbr.trans (hbi.mono hbr.size)
    have hAr := hA5.later hbr; have hBr := hB5.later hbr
    refine wp_seq_k (fun K21 hK21 => ?_)
    refine wp_seq_k (fun K22 hK22 => ?_)
    refine Fact.region ?_
    have b68 := hf.l 68 rfl
    have b69 := hf.l 69 rfl
    have b70 := hf.l 70 rfl
    refine Fact.p rfl fun K hK => ?_
    go_simp
    refine hK.out _ _ ?_; clear hK K
    refine Fact.p rfl fun K hK => ?_
    go_simp
    refine hK.out _ _ ?_; clear hK K
    refine Fact.p rfl fun K hK => ?_
    go_simp
    refine hK.out _ _ ?_; clear hK K
    refine Fact.p rfl fun K hK => ?_
    go_simp
    refine hK.out _ _ ?_; clear hK K
    refine Fact.nil ?_
    refine Fact.reQ (n := 147) (by simp only [Fact.G, hf.size]) hf.defers (fun fr1 hf1 hT => ?_)
    have hKp : _ ∧ _ ∧ _ ∧ _ ∧ _ ∧ _ ∧ _ ∧ _ ∧ _ ∧ _ ∧ _ ∧ _ := ⟨hT 6, hT 9, hT 10, hT 11, hT 12, hT 13, hT 14, hT 15, hT 68, hT 69, hT 70, hT 71⟩
    simp only [Fact.G, Nat.reduceEqDiff, Nat.reduceLT, reduceIte, hf.size, s6, s9, s10, s11, s12, s13, s14, s15] at hKp
    clear hT hf s6 s9 s10 s11 s12 s13 s14 s15 b68 b69 b70
    obtain ⟨s6, s9, s10, s11, s12, s13, s14, s15, s68, s69, s70, s71⟩ := hKp
    have hf := hf1; clear hf1
    refine Fact.then_normal ?_
    refine hK22 _ _ ?_
    refine Fact.cond_s s71 (fun hq2 => ?_) (fun hq2 => ?_)
    ·
     have hnq : n ≤ q.size := by have h9 := of_decide_eq_true hq2; omega
     have hat1 : ∀ (j : Nat) (h : j < S.size), S[j].toNat = at_ S j := fun j h => (at_get h).symm
     have hat2 : ∀ (j : Nat) (h : j < T.size), T[j].toNat = at_ T j := fun j h => (at_get h).symm
     have hsl := at_lt S n; have htl := at_lt T n
     have hc := HC.out n hnq
     obtain ⟨A, hA⟩ : ∃ A, at_ S n = A := ⟨_, rfl⟩
     obtain ⟨B, hB⟩ : ∃ B, at_ T n = B := ⟨_, rfl⟩
     rw [hA, hB] at hc; rw [hA] at hsl; rw [hB] at htl
     have e3 : IntKind.i64.wrap (A : Int) = (A : Int) := Fact.wrap_i64 (by omega) (by omega)
     have e4 : IntKind.i64.wrap (B : Int) = (B : Int) := Fact.wrap_i64 (by omega) (by omega)
     have e5 : min (B : Int) ((k : Int) + 1) = (A : Int) := by omega
     clear hc
     refine wp_skip ?_
     refine Fact.then_normal ?_
     refine hK21 _ _ ?_
     refine wp_seq_k (fun K23 hK23 => ?_)
     refine wp_block ?_
     refine wp_seq_k (fun K24 hK24 => ?_)
     refine Stab.todo_begin (n := 147) (Stab.OkOps.of (by kernel_rfl)) (fun hok => ?_)
     refine Stab.mvO (k := 0) s12 hf.size hok.out rfl rfl rfl (.inl rfl) (by kernel_rfl) ?_
     refine Stab.mvO (k := 1) s15 hf.size hok.out rfl rfl rfl (.inl rfl) (by kernel_rfl) ?_
     apply Stab.t 2 _ hf.size hok.out rfl
     ·
      intro fr1 w1 hh hd hk K hK
      refine Stab.op_plain (o := _) rfl rfl ?_
      have s74 := Stab.u 0 1 hd hk rfl [] (by kernel_rfl) rfl rfl rfl
      have s75 := Stab.u 1 0 hd hk rfl [] (by kernel_rfl) rfl rfl rfl
      clear hd
      go_simp
      try rw [if_pos (by omega)]
      try rw [hat1]
      try rw [hat2]
      try simp only [hA, hB]
      exact hK.out _ rfl _ _ (Below.refl _ _) rfl
     apply Stab.t 3 _ hf.size hok.out rfl
     ·
      intro fr1 w1 hh hd hk K hK
      refine Stab.op_plain (o := _) rfl rfl ?_
      have s76 := Stab.u 2 0 hd hk rfl [] (by kernel_rfl) rfl rfl rfl
      clear hd
      go_simp
      exact hK.out _ rfl _ _ (Below.refl _ _) rfl
     refine Stab.mvO (k := 4) s13 hf.size hok.out rfl rfl rfl (.inl rfl) (by kernel_rfl) ?_
     refine Stab.mvO (k := 5) s15 hf.size hok.out rfl rfl rfl (.inl rfl) (by kernel_rfl) ?_
     apply Stab.t 6 _ hf.size hok.out rfl
     ·
      intro fr1 w1 hh hd hk K hK
      refine Stab.op_plain (o := _) rfl rfl ?_
      have s78 := Stab.u 4 1 hd hk rfl [] (by kernel_rfl) rfl rfl rfl
      have s79 := Stab.u 5 0 hd hk rfl [] (by kernel_rfl) rfl rfl rfl
      clear hd
      go_simp
      try rw [if_pos (by omega)]
      try rw [hat1]
      try rw [hat2]
      try simp only [hA, hB]
      exact hK.out _ rfl _ _ (Below.refl _ _) rfl
     apply Stab.t 7 _ hf.size hok.out rfl
     ·
      intro fr1 w1 hh hd hk K hK
      refine Stab.op_plain (o := _) rfl rfl ?_
      have s80 := Stab.u 6 0 hd hk rfl [] (by kernel_rfl) rfl rfl rfl
      clear hd
      go_simp
      exact hK.out _ rfl _ _ (Below.refl _ _) rfl
     refine Stab.mvO (k := 8) s6 hf.size hok.out rfl rfl rfl (.inl rfl) (by kernel_rfl) ?_
     apply Stab.t 9 _ hf.size hok.out rfl
     ·
      intro fr1 w1 hh hd hk K hK
      refine Stab.op_plain (o := _) rfl rfl ?_
      have s82 := Stab.u 8 0 hd hk rfl [] (by kernel_rfl) rfl rfl rfl
      clear hd
      go_simp
      try simp (disch := omega) only [Fact.wrap_i64, Fact.wrap_u8, Fact.wrap_u32, Fact.wrap_u64]
      exact hK.out _ rfl _ _ (Below.refl _ _) rfl
     apply Stab.t 10 _ hf.size hok.out rfl
     ·
      intro fr1 w1 hh hd hk K hK
      refine Stab.op_plain (o := _) rfl rfl ?_
      have s81 := Stab.u 7 2 hd hk rfl [] (by kernel_rfl) rfl rfl rfl
      have s83 := Stab.u 9 0 hd hk rfl [] (by kernel_rfl) rfl rfl rfl
      clear hd
      go_simp
      try simp only [e5]
      exact hK.out _ rfl _ _ (Below.refl _ _) rfl
     apply Stab.t 11 _ hf.size hok.out rfl
     ·
      intro fr1 w1 hh hd hk K hK
      refine Stab.op_plain (o := _) rfl rfl ?_
      have s77 := Stab.u 3 7 hd hk rfl [] (by kernel_rfl) rfl rfl rfl
      have s84 := Stab.u 10 0 hd hk rfl [] (by kernel_rfl) rfl rfl rfl
      clear hd
      go_simp
      exact hK.out _ rfl _ _ (Below.refl _ _) rfl
     refine Stab.todo_facts (n := 147) (by kernel_rfl) hf.size hok.out rfl (fun fr1 w1 hh hg => ?_)
     replace s6 := Stab.o hh (by kernel_rfl) s6
     replace s9 := Stab.o hh (by kernel_rfl) s9
     replace s10 := Stab.o hh (by kernel_rfl) s10
     replace s11 := Stab.o hh (by kernel_rfl) s11
     replace s12 := Stab.o hh (by kernel_rfl) s12
     replace s13 := Stab.o hh (by kernel_rfl) s13
     replace s14 := Stab.o hh (by kernel_rfl) s14
     replace s15 := Stab.o hh (by kernel_rfl) s15
     replace s68 := Stab.o hh (by kernel_rfl) s68
     replace s69 := Stab.o hh (by kernel_rfl) s69
     replace s70 := Stab.o hh (by kernel_rfl) s70
     replace s71 := Stab.o hh (by kernel_rfl) s71
     have s74 := Stab.e 0 11 hg rfl rfl rfl rfl
     have s75 := Stab.e 1 10 hg rfl rfl rfl rfl
     have s76 := Stab.e 2 9 hg rfl rfl rfl rfl
     have s77 := Stab.e 3 8 hg rfl rfl rfl rfl
     have s78 := Stab.e 4 7 hg rfl rfl rfl rfl
     have s79 := Stab.e 5 6 hg rfl rfl rfl rfl
     have s80 := Stab.e 6 5 hg rfl rfl rfl rfl
     have s81 := Stab.e 7 4 hg rfl rfl rfl rfl
     have s82 := Stab.e 8 3 hg rfl rfl rfl rfl
     have s83 := Stab.e 9 2 hg rfl rfl rfl rfl
     have s84 := Stab.e 10 1 hg rfl rfl rfl rfl
     have s85 := Stab.e 11 0 hg rfl rfl rfl rfl
     have hf1 : Fact.Fr 147 fr1 := ⟨hh.size.trans hf.size, hh.defers.trans hf.defers⟩
     have hx := hh.ext
     clear hg hh hf hok 
     have hf := hf1; clear hf1
     refine Fact.then_normal ?_
     refine hK24 _ _ ?_
     try simp at s85
     refine Fact.cond_f s85 ?_
     refine wp_skip ?_
     refine Fact.block_normal ?_
     refine Fact.then_normal ?_
     refine hK23 _ _ ?_
     refine Fact.region ?_
     have b72 := hf.l 72 rfl
     have b73 := hf.l 73 rfl
     refine Fact.p rfl fun K hK => ?_
     go_simp
     refine hK.out _ _ ?_; clear hK K
     refine Fact.p rfl fun K hK => ?_
     go_simp
     try simp (disch := omega) only [Fact.wrap_i64, Fact.wrap_u8, Fact.wrap_u32, Fact.wrap_u64]
     refine hK.out _ _ ?_; clear hK K
     refine Fact.p rfl fun K hK => ?_
     go_simp
     refine hK.out _ _ ?_; clear hK K
     refine Fact.nil ?_
     refine Fact.reQ (n := 147) (by simp only [Fact.G, hf.size]) hf.defers (fun fr1 hf1 hT => ?_)
     have hKp : _ ∧ _ ∧ _ ∧ _ ∧ _ ∧ _ ∧ _ ∧ _ ∧ _ ∧ _ ∧ _ ∧ _ ∧ _ ∧ _ ∧ _ ∧ _ ∧ _ ∧ _ ∧ _ ∧ _ ∧ _ ∧ _ ∧ _ ∧ _ ∧ _ ∧ _ := ⟨hT 6, hT 9, hT 10, hT 11, hT 12, hT 13, hT 14, hT 15, hT 68, hT 69, hT 70, hT 71, hT 72, hT 73, hT 74, hT 75, hT 76, hT 77, hT 78, hT 79, hT 80, hT 81, hT 82, hT 83, hT 84, hT 85⟩
     simp only [Fact.G, Nat.reduceEqDiff, Nat.reduceLT, reduceIte, hf.size, s6, s9, s10, s11, s12, s13, s14, s68, s69, s70, s71, s74, s75, s76, s77, s78, s79, s80, s81, s82, s83, s84, s85] at hKp
     clear hT hf s6 s9 s10 s11 s12 s13 s14 s15 s68 s69 s70 s71 s74 s75 s76 s77 s78 s79 s80 s81 s82 s83 s84 s85 b72 b73
     obtain ⟨s6, s9, s10, s11, s12, s13, s14, s15, s68, s69, s70, s71, s72, s73, s74, s75, s76, s77, s78, s79, s80, s81, s82, s83, s84, s85⟩ := hKp
     have hf := hf1; clear hf1
     refine Fact.then_normal ?_
     exact ⟨_, by have := HK2.out; omega, n + 1, rfl, by omega, hf, s6, s9, s10, s11, s12, s13, s14, by rw [s15]; rfl, hbi.trans (hx.mono hbi.size)⟩
    ·
     have hne : n = q.size + 1 := by have h9 := of_decide_eq_false hq2; omega
     refine wp_exit ?_
     refine Fact.then_exit ?_
     refine Fact.then_exit ?_
     refine Fact.block_exit ?_
     refine Fact.then_normal ?_
     refine hK19 _ _ ?_
     refine wp_seq_k (fun K25 hK25 => ?_)
     refine Fact.region ?_
     have b87 := hf.l 87 rfl
     have b88 := hf.l 88 rfl
     have b89 := hf.l 89 rfl
     have b86 := hf.l 86 rfl
     have b90 := hf.l 90 rfl
     have b91 := hf.l 91 rfl
     refine Fact.p rfl fun K hK => ?_
     go_simp
     refine hK.out _ _ ?_; clear hK K
     refine Fact.p rfl fun K hK => ?_
     go_simp
     refine hK.out _ _ ?_; clear hK K
     refine Fact.p rfl fun K hK => ?_
     go_simp
     go_at_call 22; refine (dist22 wr2 g q k hAr S).mono ?_; rintro e w6 ⟨rfl, h6⟩
     dsimp only
     refine hK.out _ _ ?_; clear hK K
     refine Fact.p rfl fun K hK => ?_
     go_simp
     refine hK.out _ _ ?_; clear hK K
     refine Fact.p rfl fun K hK => ?_
     go_simp
     refine hK.out _ _ ?_; clear hK K
     refine Fact.p rfl fun K hK => ?_
     go_simp
     refine hK.out _ _ ?_; clear hK K
     refine Fact.p rfl fun K hK => ?_
     go_simp
     refine hK.out _ _ ?_; clear hK K
     refine Fact.p rfl fun K hK => ?_
     go_simp
     refine hK.out _ _ ?_; clear hK K
     refine Fact.nil ?_
     refine Fact.reQ (n := 147) (by simp only [Fact.G, hf.size]) hf.defers (fun fr1 hf1 hT => ?_)
     have hKp : _ ∧ _ ∧ _ ∧ _ ∧ _ ∧ _ ∧ _ ∧ _ ∧ _ ∧ _ ∧ _ ∧ _ ∧ _ ∧ _ ∧ _ ∧ _ ∧ _ ∧ _ ∧ _ ∧ _ := ⟨hT 6, hT 9, hT 10, hT 11, hT 12, hT 13, hT 14, hT 15, hT 16, hT 17, hT 68, hT 69, hT 70, hT 71, hT 86, hT 87, hT 88, hT 89, hT 90, hT 91⟩
     simp only [Fact.G, Nat.reduceEqDiff, Nat.reduceLT, reduceIte, hf.size, s6, s9, s10, s11, s12, s13, s14, s15, s68, s69, s70, s71] at hKp
     clear hT hf s6 s9 s10 s11 s12 s13 s14 s15 s68 s69 s70 s71 b87 b88 b89 b86 b90 b91
     obtain ⟨s6, s9, s10, s11, s12, s13, s14, s15, s16, s17, s68, s69, s70, s71, s86, s87, s88, s89, s90, s91⟩ := hKp
     have hf := hf1; clear hf1
     refine Fact.then_normal ?_
     refine hK25 _ _ ?_
     refine wp_seq_k (fun K26 hK26 => ?_)
     refine Fact.region ?_
     have b93 := hf.l 93 rfl
     have b94 := hf.l 94 rfl
     have b95 := hf.l 95 rfl
     have b92 := hf.l 92 rfl
     have b96 := hf.l 96 rfl
     have b97 := hf.l 97 rfl
     refine Fact.p rfl fun K hK => ?_
     go_simp
     refine hK.out _ _ ?_; clear hK K
     refine Fact.p rfl fun K hK => ?_
     go_simp
     refine hK.out _ _ ?_; clear hK K
     refine Fact.p rfl fun K hK => ?_
     go_simp
     go_at_call 22; refine (dist22 w6 u q m (hBr.later h6) T).mono ?_; rintro e w7 ⟨rfl, h7⟩
     dsimp only
     refine hK.out _ _ ?_; clear hK K
     refine Fact.p rfl fun K hK => ?_
     go_simp
     refine hK.out _ _ ?_; clear hK K
     refine Fact.p rfl fun K hK => ?_
     go_simp
     refine hK.out _ _ ?_; clear hK K
     refine Fact.p rfl fun K hK => ?_
     go_simp
     refine hK.out _ _ ?_; clear hK K
     refine Fact.p rfl fun K hK => ?_
     go_simp
     refine hK.out _ _ ?_; clear hK K
     refine Fact.p rfl fun K hK => ?_
     go_simp
     refine hK.out _ _ ?_; clear hK K
     refine Fact.nil ?_
     refine Fact.reQ (n := 147) (by simp only [Fact.G, hf.size]) hf.defers (fun fr1 hf1 hT => ?_)
     have hKp : _ ∧ _ ∧ _ ∧ _ ∧ _ ∧ _ ∧ _ ∧ _ ∧ _ ∧ _ ∧ _ ∧ _ ∧ _ ∧ _ ∧ _ ∧ _ ∧ _ ∧ _ ∧ _ ∧ _ ∧ _ ∧ _ ∧ _ ∧ _ ∧ _ ∧ _ ∧ _ ∧ _ := ⟨hT 6, hT 9, hT 10, hT 11, hT 12, hT 13, hT 14, hT 15, hT 16, hT 17, hT 18, hT 19, hT 68, hT 69, hT 70, hT 71, hT 86, hT 87, hT 88, hT 89, hT 90, hT 91, hT 92, hT 93, hT 94, hT 95, hT 96, hT 97⟩
     simp only [Fact.G, Nat.reduceEqDiff, Nat.reduceLT, reduceIte, hf.size, s6, s9, s10, s11, s12, s13, s14, s15, s16, s17, s68, s69, s70, s71, s86, s87, s88, s89, s90, s91] at hKp
     clear hT hf s6 s9 s10 s11 s12 s13 s14 s15 s16 s17 s68 s69 s70 s71 s86 s87 s88 s89 s90 s91 b93 b94 b95 b92 b96 b97
     obtain ⟨s6, s9, s10, s11, s12, s13, s14, s15, s16, s17, s18, s19, s68, s69, s70, s71, s86, s87, s88, s89, s90, s91, s92, s93, s94, s95, s96, s97⟩ := hKp
     have hf := hf1; clear hf1
     refine Fact.then_normal ?_
     refine hK26 _ _ ?_
     have hb8 := h6.trans (h7.mono h6.size)
     have hA7 := (hAr.later h6).later h7; have hB7 := (hBr.later h6).later h7
     have his : isS q k S = decide (at_ S q.size ≤ k) := is_eq hokS
     have hso : isS q m T = decide (at_ T q.size ≤ m) := is_eq hokT
     have hc := HC.out q.size (Nat.le_refl _)
     have hcan : canS q k S = true → canS q m T = true := fun h => by rw [HT.out, can_R hm3]; rw [HS.out, can_R (by omega)] at h; obtain ⟨j, h8, h9⟩ := h; exact ⟨j, h8, by omega⟩
     have HCAN := Lib.hid hcan; clear hcan
     refine Fact.seq_meet (fun fr wr3 => Fact.Fr 147 fr ∧ fr.tmps[6]? = some (.int .i64 k) ∧ fr.tmps[9]? = some (.string t) ∧ fr.tmps[10]? = some (.pointer (some ⟨g, 0, none⟩)) ∧ fr.tmps[11]? = some (.pointer (some ⟨u, 0, none⟩)) ∧ fr.tmps[12]? = some (.string S) ∧ fr.tmps[13]? = some (.string T) ∧ fr.tmps[14]? = some (.int .i64 i) ∧ Below wr2.heap.size wr2 wr3) ?_ ?_
     ·
      have h3c : at_ T q.size ≤ k ∨ (k < at_ T q.size ∧ at_ T q.size ≤ m) ∨ m < at_ T q.size := by omega
      rcases h3c with hc1 | ⟨hc1, hc2⟩ | hc1
      ·
       have i1 : isS q k S = true := by rw [his]; exact decide_eq_true (by omega)
       have i2 : isS q m T = true := by rw [hso]; exact decide_eq_true (by omega)
       have d1 : distS q k S = at_ T q.size := by rw [distS, if_pos i1]; omega
       have d2 : distS q m T = at_ T q.size := by rw [distS, if_pos i2]
       rw [d1] at s16; rw [d2] at s18; rw [i1] at s17; rw [i2] at s19
       obtain ⟨D, hD⟩ : ∃ D, at_ T q.size = D := ⟨_, rfl⟩
       rw [hD] at s16 s18
       have q1 : decide (D ≤ k) = true := decide_eq_true (by omega)
       rcases hcn : canS q k S with _ | _
       ·
        refine wp_seq_k (fun K27 hK27 => ?_)
        refine Fact.region ?_
        have b98 := hf.l 98 rfl
        have b99 := hf.l 99 rfl
        have b100 := hf.l 100 rfl
        have b101 := hf.l 101 rfl
        have b102 := hf.l 102 rfl
        have b103 := hf.l 103 rfl
        have b104 := hf.l 104 rfl
        have b105 := hf.l 105 rfl
        have b106 := hf.l 106 rfl
        have b107 := hf.l 107 rfl
        have b108 := hf.l 108 rfl
        have b109 := hf.l 109 rfl
        have b110 := hf.l 110 rfl
        have b111 := hf.l 111 rfl
        have b112 := hf.l 112 rfl
        have b113 := hf.l 113 rfl
        have b114 := hf.l 114 rfl
        have b115 := hf.l 115 rfl
        have b116 := hf.l 116 rfl
        have b117 := hf.l 117 rfl
        have b118 := hf.l 118 rfl
        have b119 := hf.l 119 rfl
        have b120 := hf.l 120 rfl
        have b121 := hf.l 121 rfl
        have b122 := hf.l 122 rfl
        have b123 := hf.l 123 rfl
        have b124 := hf.l 124 rfl
        have b125 := hf.l 125 rfl
        have b126 := hf.l 126 rfl
        have b127 := hf.l 127 rfl
        have b128 := hf.l 128 rfl
        have b129 := hf.l 129 rfl
        refine Fact.p rfl fun K hK => ?_
        go_simp
        refine hK.out _ _ ?_; clear hK K
        refine Fact.p rfl fun K hK => ?_
        go_simp
        refine hK.out _ _ ?_; clear hK K
        refine Fact.op_guard (g := 1) (d := 99) (b := true) rfl rfl rfl ?_ (fun K hK => ?_)
        ·
         simp only [Fact.G, Nat.reduceEqDiff, Nat.reduceLT, reduceIte, hf.size, q1, Bool.not_true, Bool.not_false, bne_self_eq_false]
        go_simp
        refine hK.out _ _ ?_; clear hK K
        refine Fact.op_guard (g := 1) (d := 99) (b := true) rfl rfl rfl ?_ (fun K hK => ?_)
        ·
         simp only [Fact.G, Nat.reduceEqDiff, Nat.reduceLT, reduceIte, hf.size, q1, Bool.not_true, Bool.not_false, bne_self_eq_false]
        go_simp
        refine hK.out _ _ ?_; clear hK K
        refine Fact.op_guard (g := 1) (d := 99) (b := true) rfl rfl rfl ?_ (fun K hK => ?_)
        ·
         simp only [Fact.G, Nat.reduceEqDiff, Nat.reduceLT, reduceIte, hf.size, q1, Bool.not_true, Bool.not_false, bne_self_eq_false]
        go_simp
        refine hK.out _ _ ?_; clear hK K
        refine Fact.op_guard (g := 4) (d := 102) (b := false) rfl rfl rfl ?_ (fun K hK => ?_)
        ·
         simp only [Fact.G, Nat.reduceEqDiff, Nat.reduceLT, reduceIte, hf.size, q1, Bool.not_true, Bool.not_false, bne_self_eq_false]
        go_simp
        refine hK.out _ _ ?_; clear hK K
        refine Fact.op_guard (g := 4) (d := 102) (b := false) rfl rfl rfl ?_ (fun K hK => ?_)
        ·
         simp only [Fact.G, Nat.reduceEqDiff, Nat.reduceLT, reduceIte, hf.size, q1, Bool.not_true, Bool.not_false, bne_self_eq_false]
        go_simp
        refine hK.out _ _ ?_; clear hK K
        refine Fact.op_guard (g := 4) (d := 102) (b := false) rfl rfl rfl ?_ (fun K hK => ?_)
        ·
         simp only [Fact.G, Nat.reduceEqDiff, Nat.reduceLT, reduceIte, hf.size, q1, Bool.not_true, Bool.not_false, bne_self_eq_false]
        go_simp
        refine hK.out _ _ ?_; clear hK K
        refine Fact.op_guard (g := 1) (d := 99) (b := true) rfl rfl rfl ?_ (fun K hK => ?_)
        ·
         simp only [Fact.G, Nat.reduceEqDiff, Nat.reduceLT, reduceIte, hf.size, q1, Bool.not_true, Bool.not_false, bne_self_eq_false]
        go_simp
        refine hK.out _ _ ?_; clear hK K
        refine Fact.p rfl fun K hK => ?_
        go_simp
        refine hK.out _ _ ?_; clear hK K
        refine Fact.p rfl fun K hK => ?_
        go_simp
        refine hK.out _ _ ?_; clear hK K
        refine Fact.op_guard (g := 10) (d := 108) (b := false) rfl rfl rfl ?_ (fun K hK => ?_)
        ·
         simp only [Fact.G, Nat.reduceEqDiff, Nat.reduceLT, reduceIte, hf.size, q1, Bool.not_true, Bool.not_false, bne_self_eq_false]
        go_simp
        refine hK.out _ _ ?_; clear hK K
        refine Fact.op_guard (g := 10) (d := 108) (b := false) rfl rfl rfl ?_ (fun K hK => ?_)
        ·
         simp only [Fact.G, Nat.reduceEqDiff, Nat.reduceLT, reduceIte, hf.size, q1, Bool.not_true, Bool.not_false, bne_self_eq_false]
        go_simp
        refine hK.out _ _ ?_; clear hK K
        refine Fact.op_guard (g := 12) (d := 110) (b := true) rfl rfl rfl ?_ (fun K hK => ?_)
        ·
         simp only [Fact.G, Nat.reduceEqDiff, Nat.reduceLT, reduceIte, hf.size, q1, Bool.not_true, Bool.not_false, bne_self_eq_false]
        go_simp
        refine hK.out _ _ ?_; clear hK K
        refine Fact.op_guard (g := 12) (d := 110) (b := true) rfl rfl rfl ?_ (fun K hK => ?_)
        ·
         simp only [Fact.G, Nat.reduceEqDiff, Nat.reduceLT, reduceIte, hf.size, q1, Bool.not_true, Bool.not_false, bne_self_eq_false]
        go_simp
        refine hK.out _ _ ?_; clear hK K
        refine Fact.op_guard (g := 12) (d := 110) (b := true) rfl rfl rfl ?_ (fun K hK => ?_)
        ·
         simp only [Fact.G, Nat.reduceEqDiff, Nat.reduceLT, reduceIte, hf.size, q1, Bool.not_true, Bool.not_false, bne_self_eq_false]
        go_simp
        refine hK.out _ _ ?_; clear hK K
        refine Fact.op_guard (g := 10) (d := 108) (b := false) rfl rfl rfl ?_ (fun K hK => ?_)
        ·
         simp only [Fact.G, Nat.reduceEqDiff, Nat.reduceLT, reduceIte, hf.size, q1, Bool.not_true, Bool.not_false, bne_self_eq_false]
        go_simp
        refine hK.out _ _ ?_; clear hK K
        refine Fact.op_guard (g := 10) (d := 108) (b := false) rfl rfl rfl ?_ (fun K hK => ?_)
        ·
         simp only [Fact.G, Nat.reduceEqDiff, Nat.reduceLT, reduceIte, hf.size, q1, Bool.not_true, Bool.not_false, bne_self_eq_false]
        go_simp
        refine hK.out _ _ ?_; clear hK K
        refine Fact.op_guard (g := 17) (d := 115) (b := true) rfl rfl rfl ?_ (fun K hK => ?_)
        ·
         simp only [Fact.G, Nat.reduceEqDiff, Nat.reduceLT, reduceIte, hf.size, q1, Bool.not_true, Bool.not_false, bne_self_eq_false]
        go_simp
        refine hK.out _ _ ?_; clear hK K
        refine Fact.op_guard (g := 17) (d := 115) (b := true) rfl rfl rfl ?_ (fun K hK => ?_)
        ·
         simp only [Fact.G, Nat.reduceEqDiff, Nat.reduceLT, reduceIte, hf.size, q1, Bool.not_true, Bool.not_false, bne_self_eq_false]
        go_simp
        refine hK.out _ _ ?_; clear hK K
        refine Fact.op_guard (g := 10) (d := 108) (b := false) rfl rfl rfl ?_ (fun K hK => ?_)
        ·
         simp only [Fact.G, Nat.reduceEqDiff, Nat.reduceLT, reduceIte, hf.size, q1, Bool.not_true, Bool.not_false, bne_self_eq_false]
        go_simp
        refine hK.out _ _ ?_; clear hK K
        refine Fact.p rfl fun K hK => ?_
        go_simp
        refine hK.out _ _ ?_; clear hK K
        refine Fact.p rfl fun K hK => ?_
        go_simp
        refine hK.out _ _ ?_; clear hK K
        refine Fact.op_guard (g := 22) (d := 120) (b := false) rfl rfl rfl ?_ (fun K hK => ?_)
        ·
         simp only [Fact.G, Nat.reduceEqDiff, Nat.reduceLT, reduceIte, hf.size, q1, Bool.not_true, Bool.not_false, bne_self_eq_false]
        go_simp
        refine hK.out _ _ ?_; clear hK K
        refine Fact.op_guard (g := 22) (d := 120) (b := false) rfl rfl rfl ?_ (fun K hK => ?_)
        ·
         simp only [Fact.G, Nat.reduceEqDiff, Nat.reduceLT, reduceIte, hf.size, q1, Bool.not_true, Bool.not_false, bne_self_eq_false]
        go_simp
        refine hK.out _ _ ?_; clear hK K
        refine Fact.op_guard (g := 22) (d := 120) (b := false) rfl rfl rfl ?_ (fun K hK => ?_)
        ·
         simp only [Fact.G, Nat.reduceEqDiff, Nat.reduceLT, reduceIte, hf.size, q1, Bool.not_true, Bool.not_false, bne_self_eq_false]
        go_simp
        go_at_call 21; refine (can21 w7 g q k hA7 S).mono ?_; rintro e w8 ⟨rfl, h8⟩
        rw [hcn]
        dsimp only
        refine hK.out _ _ ?_; clear hK K
        refine Fact.op_guard (g := 22) (d := 120) (b := false) rfl rfl rfl ?_ (fun K hK => ?_)
        ·
         simp only [Fact.G, Nat.reduceEqDiff, Nat.reduceLT, reduceIte, hf.size, q1, Bool.not_true, Bool.not_false, bne_self_eq_false]
        go_simp
        refine hK.out _ _ ?_; clear hK K
        refine Fact.op_skip (g := 26) (d := 124) (b := true) rfl rfl rfl ?_ ?_
        ·
         simp only [Fact.G, Nat.reduceEqDiff, Nat.reduceLT, reduceIte, hf.size, Bool.not_true, Bool.not_false, q1, Bool.not_true, Bool.not_false, bne_self_eq_false]
        refine Fact.op_skip (g := 26) (d := 124) (b := true) rfl rfl rfl ?_ ?_
        ·
         simp only [Fact.G, Nat.reduceEqDiff, Nat.reduceLT, reduceIte, hf.size, Bool.not_true, Bool.not_false, q1, Bool.not_true, Bool.not_false, bne_self_eq_false]
        refine Fact.op_skip (g := 26) (d := 124) (b := true) rfl rfl rfl ?_ ?_
        ·
         simp only [Fact.G, Nat.reduceEqDiff, Nat.reduceLT, reduceIte, hf.size, Bool.not_true, Bool.not_false, q1, Bool.not_true, Bool.not_false, bne_self_eq_false]
        refine Fact.op_skip (g := 26) (d := 124) (b := true) rfl rfl rfl ?_ ?_
        ·
         simp only [Fact.G, Nat.reduceEqDiff, Nat.reduceLT, reduceIte, hf.size, Bool.not_true, Bool.not_false, q1, Bool.not_true, Bool.not_false, bne_self_eq_false]
        refine Fact.op_guard (g := 22) (d := 120) (b := false) rfl rfl rfl ?_ (fun K hK => ?_)
        ·
         simp only [Fact.G, Nat.reduceEqDiff, Nat.reduceLT, reduceIte, hf.size, q1, Bool.not_true, Bool.not_false, bne_self_eq_false]
        go_simp
        refine hK.out _ _ ?_; clear hK K
        refine Fact.p rfl fun K hK => ?_
        go_simp
        refine hK.out _ _ ?_; clear hK K
        refine Fact.nil ?_
        refine Fact.reQ (n := 147) (by simp only [Fact.G, hf.size]) hf.defers (fun fr1 hf1 hT => ?_)
        have hKp : _ ∧ _ ∧ _ ∧ _ ∧ _ ∧ _ ∧ _ ∧ _ ∧ _ ∧ _ ∧ _ ∧ _ ∧ _ ∧ _ ∧ _ ∧ _ ∧ _ ∧ _ ∧ _ ∧ _ ∧ _ ∧ _ ∧ _ ∧ _ ∧ _ ∧ _ ∧ _ ∧ _ ∧ _ ∧ _ ∧ _ ∧ _ ∧ _ ∧ _ ∧ _ ∧ _ ∧ _ ∧ _ ∧ _ ∧ _ ∧ _ ∧ _ ∧ _ ∧ _ ∧ _ ∧ _ ∧ _ ∧ _ ∧ _ ∧ _ ∧ _ ∧ _ ∧ _ ∧ _ ∧ _ ∧ _ ∧ _ ∧ _ ∧ _ ∧ _ ∧ _ := ⟨hT 6, hT 9, hT 10, hT 11, hT 12, hT 13, hT 14, hT 15, hT 16, hT 17, hT 18, hT 19, hT 68, hT 69, hT 70, hT 71, hT 86, hT 87, hT 88, hT 89, hT 90, hT 91, hT 92, hT 93, hT 94, hT 95, hT 96, hT 97, hT 98, hT 99, hT 100, hT 101, hT 102, hT 103, hT 104, hT 105, hT 106, hT 107, hT 108, hT 109, hT 110, hT 111, hT 112, hT 113, hT 114, hT 115, hT 116, hT 117, hT 118, hT 119, hT 120, hT 121, hT 122, hT 123, hT 124, hT 125, hT 126, hT 127, hT 128, hT 129, hT 130⟩
        simp only [Fact.G, Nat.reduceEqDiff, Nat.reduceLT, reduceIte, hf.size, s6, s9, s10, s11, s12, s13, s14, s15, s16, s17, s18, s19, s68, s69, s70, s71, s86, s87, s88, s89, s90, s91, s92, s93, s94, s95, s96, s97] at hKp
        clear hT hf s6 s9 s10 s11 s12 s13 s14 s15 s16 s17 s18 s19 s68 s69 s70 s71 s86 s87 s88 s89 s90 s91 s92 s93 s94 s95 s96 s97 b98 b99 b100 b101 b102 b103 b104 b105 b106 b107 b108 b109 b110 b111 b112 b113 b114 b115 b116 b117 b118 b119 b120 b121 b122 b123 b124 b125 b126 b127 b128 b129
        obtain ⟨s6, s9, s10, s11, s12, s13, s14, s15, s16, s17, s18, s19, s68, s69, s70, s71, s86, s87, s88, s89, s90, s91, s92, s93, s94, s95, s96, s97, s98, s99, s100, s101, s102, s103, s104, s105, s106, s107, s108, s109, s110, s111, s112, s113, s114, s115, s116, s117, s118, s119, s120, s121, s122, s123, s124, s125, s126, s127, s128, s129, s130⟩ := hKp
        have hf := hf1; clear hf1
        refine Fact.then_normal ?_
        refine hK27 _ _ ?_
        try simp only [q1, bne_self_eq_false] at s130
        refine Fact.cond_f s130 ?_
        refine wp_skip ?_
        refine Fact.then_normal ?_
        skip
        exact ⟨hf, s6, s9, s10, s11, s12, s13, s14, hb8.trans (h8.mono hb8.size)⟩
       ·
        have hcT := HCAN.out hcn
        refine wp_seq_k (fun K28 hK28 => ?_)
        refine Fact.region ?_
        have b98 := hf.l 98 rfl
        have b99 := hf.l 99 rfl
        have b100 := hf.l 100 rfl
        have b101 := hf.l 101 rfl
        have b102 := hf.l 102 rfl
        have b103 := hf.l 103 rfl
        have b104 := hf.l 104 rfl
        have b105 := hf.l 105 rfl
        have b106 := hf.l 106 rfl
        have b107 := hf.l 107 rfl
        have b108 := hf.l 108 rfl
        have b109 := hf.l 109 rfl
        have b110 := hf.l 110 rfl
        have b111 := hf.l 111 rfl
        have b112 := hf.l 112 rfl
        have b113 := hf.l 113 rfl
        have b114 := hf.l 114 rfl
        have b115 := hf.l 115 rfl
        have b116 := hf.l 116 rfl
        have b117 := hf.l 117 rfl
        have b118 := hf.l 118 rfl
        have b119 := hf.l 119 rfl
        have b120 := hf.l 120 rfl
        have b121 := hf.l 121 rfl
        have b122 := hf.l 122 rfl
        have b123 := hf.l 123 rfl
        have b124 := hf.l 124 rfl
        have b125 := hf.l 125 rfl
        have b126 := hf.l 126 rfl
        have b127 := hf.l 127 rfl
        have b128 := hf.l 128 rfl
        have b129 := hf.l 129 rfl
        refine Fact.p rfl fun K hK => ?_
        go_simp
        refine hK.out _ _ ?_; clear hK K
        refine Fact.p rfl fun K hK => ?_
        go_simp
        refine hK.out _ _ ?_; clear hK K
        refine Fact.op_guard (g := 1) (d := 99) (b := true) rfl rfl rfl ?_ (fun K hK => ?_)
        ·
         simp only [Fact.G, Nat.reduceEqDiff, Nat.reduceLT, reduceIte, hf.size, q1, Bool.not_true, Bool.not_false, bne_self_eq_false]
        go_simp
        refine hK.out _ _ ?_; clear hK K
        refine Fact.op_guard (g := 1) (d := 99) (b := true) rfl rfl rfl ?_ (fun K hK => ?_)
        ·
         simp only [Fact.G, Nat.reduceEqDiff, Nat.reduceLT, reduceIte, hf.size, q1, Bool.not_true, Bool.not_false, bne_self_eq_false]
        go_simp
        refine hK.out _ _ ?_; clear hK K
        refine Fact.op_guard (g := 1) (d := 99) (b := true) rfl rfl rfl ?_ (fun K hK => ?_)
        ·
         simp only [Fact.G, Nat.reduceEqDiff, Nat.reduceLT, reduceIte, hf.size, q1, Bool.not_true, Bool.not_false, bne_self_eq_false]
        go_simp
        refine hK.out _ _ ?_; clear hK K
        refine Fact.op_guard (g := 4) (d := 102) (b := false) rfl rfl rfl ?_ (fun K hK => ?_)
        ·
         simp only [Fact.G, Nat.reduceEqDiff, Nat.reduceLT, reduceIte, hf.size, q1, Bool.not_true, Bool.not_false, bne_self_eq_false]
        go_simp
        refine hK.out _ _ ?_; clear hK K
        refine Fact.op_guard (g := 4) (d := 102) (b := false) rfl rfl rfl ?_ (fun K hK => ?_)
        ·
         simp only [Fact.G, Nat.reduceEqDiff, Nat.reduceLT, reduceIte, hf.size, q1, Bool.not_true, Bool.not_false, bne_self_eq_false]
        go_simp
        refine hK.out _ _ ?_; clear hK K
        refine Fact.op_guard (g := 4) (d := 102) (b := false) rfl rfl rfl ?_ (fun K hK => ?_)
        ·
         simp only [Fact.G, Nat.reduceEqDiff, Nat.reduceLT, reduceIte, hf.size, q1, Bool.not_true, Bool.not_false, bne_self_eq_false]
        go_simp
        refine hK.out _ _ ?_; clear hK K
        refine Fact.op_guard (g := 1) (d := 99) (b := true) rfl rfl rfl ?_ (fun K hK => ?_)
        ·
         simp only [Fact.G, Nat.reduceEqDiff, Nat.reduceLT, reduceIte, hf.size, q1, Bool.not_true, Bool.not_false, bne_self_eq_false]
        go_simp
        refine hK.out _ _ ?_; clear hK K
        refine Fact.p rfl fun K hK => ?_
        go_simp
        refine hK.out _ _ ?_; clear hK K
        refine Fact.p rfl fun K hK => ?_
        go_simp
        refine hK.out _ _ ?_; clear hK K
        refine Fact.op_guard (g := 10) (d := 108) (b := false) rfl rfl rfl ?_ (fun K hK => ?_)
        ·
         simp only [Fact.G, Nat.reduceEqDiff, Nat.reduceLT, reduceIte, hf.size, q1, Bool.not_true, Bool.not_false, bne_self_eq_false]
        go_simp
        refine hK.out _ _ ?_; clear hK K
        refine Fact.op_guard (g := 10) (d := 108) (b := false) rfl rfl rfl ?_ (fun K hK => ?_)
        ·
         simp only [Fact.G, Nat.reduceEqDiff, Nat.reduceLT, reduceIte, hf.size, q1, Bool.not_true, Bool.not_false, bne_self_eq_false]
        go_simp
        refine hK.out _ _ ?_; clear hK K
        refine Fact.op_guard (g := 12) (d := 110) (b := true) rfl rfl rfl ?_ (fun K hK => ?_)
        ·
         simp only [Fact.G, Nat.reduceEqDiff, Nat.reduceLT, reduceIte, hf.size, q1, Bool.not_true, Bool.not_false, bne_self_eq_false]
        go_simp
        refine hK.out _ _ ?_; clear hK K
        refine Fact.op_guard (g := 12) (d := 110) (b := true) rfl rfl rfl ?_ (fun K hK => ?_)
        ·
         simp only [Fact.G, Nat.reduceEqDiff, Nat.reduceLT, reduceIte, hf.size, q1, Bool.not_true, Bool.not_false, bne_self_eq_false]
        go_simp
        refine hK.out _ _ ?_; clear hK K
        refine Fact.op_guard (g := 12) (d := 110) (b := true) rfl rfl rfl ?_ (fun K hK => ?_)
        ·
         simp only [Fact.G, Nat.reduceEqDiff, Nat.reduceLT, reduceIte, hf.size, q1, Bool.not_true, Bool.not_false, bne_self_eq_false]
        go_simp
        refine hK.out _ _ ?_; clear hK K
        refine Fact.op_guard (g := 10) (d := 108) (b := false) rfl rfl rfl ?_ (fun K hK => ?_)
        ·
         simp only [Fact.G, Nat.reduceEqDiff, Nat.reduceLT, reduceIte, hf.size, q1, Bool.not_true, Bool.not_false, bne_self_eq_false]
        go_simp
        refine hK.out _ _ ?_; clear hK K
        refine Fact.op_guard (g := 10) (d := 108) (b := false) rfl rfl rfl ?_ (fun K hK => ?_)
        ·
         simp only [Fact.G, Nat.reduceEqDiff, Nat.reduceLT, reduceIte, hf.size, q1, Bool.not_true, Bool.not_false, bne_self_eq_false]
        go_simp
        refine hK.out _ _ ?_; clear hK K
        refine Fact.op_guard (g := 17) (d := 115) (b := true) rfl rfl rfl ?_ (fun K hK => ?_)
        ·
         simp only [Fact.G, Nat.reduceEqDiff, Nat.reduceLT, reduceIte, hf.size, q1, Bool.not_true, Bool.not_false, bne_self_eq_false]
        go_simp
        refine hK.out _ _ ?_; clear hK K
        refine Fact.op_guard (g := 17) (d := 115) (b := true) rfl rfl rfl ?_ (fun K hK => ?_)
        ·
         simp only [Fact.G, Nat.reduceEqDiff, Nat.reduceLT, reduceIte, hf.size, q1, Bool.not_true, Bool.not_false, bne_self_eq_false]
        go_simp
        refine hK.out _ _ ?_; clear hK K
        refine Fact.op_guard (g := 10) (d := 108) (b := false) rfl rfl rfl ?_ (fun K hK => ?_)
        ·
         simp only [Fact.G, Nat.reduceEqDiff, Nat.reduceLT, reduceIte, hf.size, q1, Bool.not_true, Bool.not_false, bne_self_eq_false]
        go_simp
        refine hK.out _ _ ?_; clear hK K
        refine Fact.p rfl fun K hK => ?_
        go_simp
        refine hK.out _ _ ?_; clear hK K
        refine Fact.p rfl fun K hK => ?_
        go_simp
        refine hK.out _ _ ?_; clear hK K
        refine Fact.op_guard (g := 22) (d := 120) (b := false) rfl rfl rfl ?_ (fun K hK => ?_)
        ·
         simp only [Fact.G, Nat.reduceEqDiff, Nat.reduceLT, reduceIte, hf.size, q1, Bool.not_true, Bool.not_false, bne_self_eq_false]
        go_simp
        refine hK.out _ _ ?_; clear hK K
        refine Fact.op_guard (g := 22) (d := 120) (b := false) rfl rfl rfl ?_ (fun K hK => ?_)
        ·
         simp only [Fact.G, Nat.reduceEqDiff, Nat.reduceLT, reduceIte, hf.size, q1, Bool.not_true, Bool.not_false, bne_self_eq_false]
        go_simp
        refine hK.out _ _ ?_; clear hK K
        refine Fact.op_guard (g := 22) (d := 120) (b := false) rfl rfl rfl ?_ (fun K hK => ?_)
        ·
         simp only [Fact.G, Nat.reduceEqDiff, Nat.reduceLT, reduceIte, hf.size, q1, Bool.not_true, Bool.not_false, bne_self_eq_false]
        go_simp
        go_at_call 21; refine (can21 w7 g q k hA7 S).mono ?_; rintro e w8 ⟨rfl, h8⟩
        rw [hcn]
        dsimp only
        refine hK.out _ _ ?_; clear hK K
        refine Fact.op_guard (g := 22) (d := 120) (b := false) rfl rfl rfl ?_ (fun K hK => ?_)
        ·
         simp only [Fact.G, Nat.reduceEqDiff, Nat.reduceLT, reduceIte, hf.size, q1, Bool.not_true, Bool.not_false, bne_self_eq_false]
        go_simp
        refine hK.out _ _ ?_; clear hK K
        refine Fact.op_guard (g := 26) (d := 124) (b := true) rfl rfl rfl ?_ (fun K hK => ?_)
        ·
         simp only [Fact.G, Nat.reduceEqDiff, Nat.reduceLT, reduceIte, hf.size, q1, Bool.not_true, Bool.not_false, bne_self_eq_false]
        go_simp
        refine hK.out _ _ ?_; clear hK K
        refine Fact.op_guard (g := 26) (d := 124) (b := true) rfl rfl rfl ?_ (fun K hK => ?_)
        ·
         simp only [Fact.G, Nat.reduceEqDiff, Nat.reduceLT, reduceIte, hf.size, q1, Bool.not_true, Bool.not_false, bne_self_eq_false]
        go_simp
        refine hK.out _ _ ?_; clear hK K
        refine Fact.op_guard (g := 26) (d := 124) (b := true) rfl rfl rfl ?_ (fun K hK => ?_)
        ·
         simp only [Fact.G, Nat.reduceEqDiff, Nat.reduceLT, reduceIte, hf.size, q1, Bool.not_true, Bool.not_false, bne_self_eq_false]
        go_simp
        go_at_call 21; refine (can21 w8 u q m (hB7.later h8) T).mono ?_; rintro e w9 ⟨rfl, h9⟩
        rw [hcT]
        dsimp only
        refine hK.out _ _ ?_; clear hK K
        refine Fact.op_guard (g := 26) (d := 124) (b := true) rfl rfl rfl ?_ (fun K hK => ?_)
        ·
         simp only [Fact.G, Nat.reduceEqDiff, Nat.reduceLT, reduceIte, hf.size, q1, Bool.not_true, Bool.not_false, bne_self_eq_false]
        go_simp
        refine hK.out _ _ ?_; clear hK K
        refine Fact.op_guard (g := 22) (d := 120) (b := false) rfl rfl rfl ?_ (fun K hK => ?_)
        ·
         simp only [Fact.G, Nat.reduceEqDiff, Nat.reduceLT, reduceIte, hf.size, q1, Bool.not_true, Bool.not_false, bne_self_eq_false]
        go_simp
        refine hK.out _ _ ?_; clear hK K
        refine Fact.p rfl fun K hK => ?_
        go_simp
        refine hK.out _ _ ?_; clear hK K
        refine Fact.nil ?_
        refine Fact.reQ (n := 147) (by simp only [Fact.G, hf.size]) hf.defers (fun fr1 hf1 hT => ?_)
        have hKp : _ ∧ _ ∧ _ ∧ _ ∧ _ ∧ _ ∧ _ ∧ _ ∧ _ ∧ _ ∧ _ ∧ _ ∧ _ ∧ _ ∧ _ ∧ _ ∧ _ ∧ _ ∧ _ ∧ _ ∧ _ ∧ _ ∧ _ ∧ _ ∧ _ ∧ _ ∧ _ ∧ _ ∧ _ ∧ _ ∧ _ ∧ _ ∧ _ ∧ _ ∧ _ ∧ _ ∧ _ ∧ _ ∧ _ ∧ _ ∧ _ ∧ _ ∧ _ ∧ _ ∧ _ ∧ _ ∧ _ ∧ _ ∧ _ ∧ _ ∧ _ ∧ _ ∧ _ ∧ _ ∧ _ ∧ _ ∧ _ ∧ _ ∧ _ ∧ _ ∧ _ := ⟨hT 6, hT 9, hT 10, hT 11, hT 12, hT 13, hT 14, hT 15, hT 16, hT 17, hT 18, hT 19, hT 68, hT 69, hT 70, hT 71, hT 86, hT 87, hT 88, hT 89, hT 90, hT 91, hT 92, hT 93, hT 94, hT 95, hT 96, hT 97, hT 98, hT 99, hT 100, hT 101, hT 102, hT 103, hT 104, hT 105, hT 106, hT 107, hT 108, hT 109, hT 110, hT 111, hT 112, hT 113, hT 114, hT 115, hT 116, hT 117, hT 118, hT 119, hT 120, hT 121, hT 122, hT 123, hT 124, hT 125, hT 126, hT 127, hT 128, hT 129, hT 130⟩
        simp only [Fact.G, Nat.reduceEqDiff, Nat.reduceLT, reduceIte, hf.size, s6, s9, s10, s11, s12, s13, s14, s15, s16, s17, s18, s19, s68, s69, s70, s71, s86, s87, s88, s89, s90, s91, s92, s93, s94, s95, s96, s97] at hKp
        clear hT hf s6 s9 s10 s11 s12 s13 s14 s15 s16 s17 s18 s19 s68 s69 s70 s71 s86 s87 s88 s89 s90 s91 s92 s93 s94 s95 s96 s97 b98 b99 b100 b101 b102 b103 b104 b105 b106 b107 b108 b109 b110 b111 b112 b113 b114 b115 b116 b117 b118 b119 b120 b121 b122 b123 b124 b125 b126 b127 b128 b129
        obtain ⟨s6, s9, s10, s11, s12, s13, s14, s15, s16, s17, s18, s19, s68, s69, s70, s71, s86, s87, s88, s89, s90, s91, s92, s93, s94, s95, s96, s97, s98, s99, s100, s101, s102, s103, s104, s105, s106, s107, s108, s109, s110, s111, s112, s113, s114, s115, s116, s117, s118, s119, s120, s121, s122, s123, s124, s125, s126, s127, s128, s129, s130⟩ := hKp
        have hf := hf1; clear hf1
        refine Fact.then_normal ?_
        refine hK28 _ _ ?_
        try simp only [q1, bne_self_eq_false] at s130
        refine Fact.cond_f s130 ?_
        refine wp_skip ?_
        refine Fact.then_normal ?_
        skip
        exact ⟨hf, s6, s9, s10, s11, s12, s13, s14, hb8.trans ((h8.trans (h9.mono h8.size)).mono hb8.size)⟩
      ·
       have i1 : isS q k S = false := by rw [his]; exact decide_eq_false (by omega)
       have i2 : isS q m T = true := by rw [hso]; exact decide_eq_true (by omega)
       have d2 : distS q m T = at_ T q.size := by rw [distS, if_pos i2]
       rw [d2] at s18; rw [i1] at s17; rw [i2] at s19
       obtain ⟨D, hD⟩ : ∃ D, at_ T q.size = D := ⟨_, rfl⟩
       rw [hD] at s18
       have q1 : decide (D ≤ k) = false := decide_eq_false (by omega)
       rcases hcn : canS q k S with _ | _
       ·
        refine wp_seq_k (fun K29 hK29 => ?_)
        refine Fact.region ?_
        have b98 := hf.l 98 rfl
        have b99 := hf.l 99 rfl
        have b100 := hf.l 100 rfl
        have b101 := hf.l 101 rfl
        have b102 := hf.l 102 rfl
        have b103 := hf.l 103 rfl
        have b104 := hf.l 104 rfl
        have b105 := hf.l 105 rfl
        have b106 := hf.l 106 rfl
        have b107 := hf.l 107 rfl
        have b108 := hf.l 108 rfl
        have b109 := hf.l 109 rfl
        have b110 := hf.l 110 rfl
        have b111 := hf.l 111 rfl
        have b112 := hf.l 112 rfl
        have b113 := hf.l 113 rfl
        have b114 := hf.l 114 rfl
        have b115 := hf.l 115 rfl
        have b116 := hf.l 116 rfl
        have b117 := hf.l 117 rfl
        have b118 := hf.l 118 rfl
        have b119 := hf.l 119 rfl
        have b120 := hf.l 120 rfl
        have b121 := hf.l 121 rfl
        have b122 := hf.l 122 rfl
        have b123 := hf.l 123 rfl
        have b124 := hf.l 124 rfl
        have b125 := hf.l 125 rfl
        have b126 := hf.l 126 rfl
        have b127 := hf.l 127 rfl
        have b128 := hf.l 128 rfl
        have b129 := hf.l 129 rfl
        refine Fact.p rfl fun K hK => ?_
        go_simp
        refine hK.out _ _ ?_; clear hK K
        refine Fact.p rfl fun K hK => ?_
        go_simp
        refine hK.out _ _ ?_; clear hK K
        refine Fact.op_skip (g := 1) (d := 99) (b := true) rfl rfl rfl ?_ ?_
        ·
         simp only [Fact.G, Nat.reduceEqDiff, Nat.reduceLT, reduceIte, hf.size, Bool.not_true, Bool.not_false, q1, Bool.not_true, Bool.not_false, bne_self_eq_false]
        refine Fact.op_skip (g := 1) (d := 99) (b := true) rfl rfl rfl ?_ ?_
        ·
         simp only [Fact.G, Nat.reduceEqDiff, Nat.reduceLT, reduceIte, hf.size, Bool.not_true, Bool.not_false, q1, Bool.not_true, Bool.not_false, bne_self_eq_false]
        refine Fact.op_skip (g := 1) (d := 99) (b := true) rfl rfl rfl ?_ ?_
        ·
         simp only [Fact.G, Nat.reduceEqDiff, Nat.reduceLT, reduceIte, hf.size, Bool.not_true, Bool.not_false, q1, Bool.not_true, Bool.not_false, bne_self_eq_false]
        refine Fact.op_skip' (g := 4) (d := 102) (b := false) rfl rfl rfl ?_ ?_
        ·
         simp only [Fact.G, Nat.reduceEqDiff, Nat.reduceLT, reduceIte, hf.size, Bool.not_true, Bool.not_false, q1, Bool.not_true, Bool.not_false, bne_self_eq_false]
        refine Fact.op_skip' (g := 4) (d := 102) (b := false) rfl rfl rfl ?_ ?_
        ·
         simp only [Fact.G, Nat.reduceEqDiff, Nat.reduceLT, reduceIte, hf.size, Bool.not_true, Bool.not_false, q1, Bool.not_true, Bool.not_false, bne_self_eq_false]
        refine Fact.op_skip' (g := 4) (d := 102) (b := false) rfl rfl rfl ?_ ?_
        ·
         simp only [Fact.G, Nat.reduceEqDiff, Nat.reduceLT, reduceIte, hf.size, Bool.not_true, Bool.not_false, q1, Bool.not_true, Bool.not_false, bne_self_eq_false]
        refine Fact.op_skip (g := 1) (d := 99) (b := true) rfl rfl rfl ?_ ?_
        ·
         simp only [Fact.G, Nat.reduceEqDiff, Nat.reduceLT, reduceIte, hf.size, Bool.not_true, Bool.not_false, q1, Bool.not_true, Bool.not_false, bne_self_eq_false]
        refine Fact.p rfl fun K hK => ?_
        go_simp
        refine hK.out _ _ ?_; clear hK K
        refine Fact.p rfl fun K hK => ?_
        go_simp
        refine hK.out _ _ ?_; clear hK K
        refine Fact.op_guard (g := 10) (d := 108) (b := false) rfl rfl rfl ?_ (fun K hK => ?_)
        ·
         simp only [Fact.G, Nat.reduceEqDiff, Nat.reduceLT, reduceIte, hf.size, q1, Bool.not_true, Bool.not_false, bne_self_eq_false]
        go_simp
        refine hK.out _ _ ?_; clear hK K
        refine Fact.op_guard (g := 10) (d := 108) (b := false) rfl rfl rfl ?_ (fun K hK => ?_)
        ·
         simp only [Fact.G, Nat.reduceEqDiff, Nat.reduceLT, reduceIte, hf.size, q1, Bool.not_true, Bool.not_false, bne_self_eq_false]
        go_simp
        refine hK.out _ _ ?_; clear hK K
        refine Fact.op_guard (g := 12) (d := 110) (b := true) rfl rfl rfl ?_ (fun K hK => ?_)
        ·
         simp only [Fact.G, Nat.reduceEqDiff, Nat.reduceLT, reduceIte, hf.size, q1, Bool.not_true, Bool.not_false, bne_self_eq_false]
        go_simp
        refine hK.out _ _ ?_; clear hK K
        refine Fact.op_guard (g := 12) (d := 110) (b := true) rfl rfl rfl ?_ (fun K hK => ?_)
        ·
         simp only [Fact.G, Nat.reduceEqDiff, Nat.reduceLT, reduceIte, hf.size, q1, Bool.not_true, Bool.not_false, bne_self_eq_false]
        go_simp
        refine hK.out _ _ ?_; clear hK K
        refine Fact.op_guard (g := 12) (d := 110) (b := true) rfl rfl rfl ?_ (fun K hK => ?_)
        ·
         simp only [Fact.G, Nat.reduceEqDiff, Nat.reduceLT, reduceIte, hf.size, q1, Bool.not_true, Bool.not_false, bne_self_eq_false]
        go_simp
        refine hK.out _ _ ?_; clear hK K
        refine Fact.op_guard (g := 10) (d := 108) (b := false) rfl rfl rfl ?_ (fun K hK => ?_)
        ·
         simp only [Fact.G, Nat.reduceEqDiff, Nat.reduceLT, reduceIte, hf.size, q1, Bool.not_true, Bool.not_false, bne_self_eq_false]
        go_simp
        refine hK.out _ _ ?_; clear hK K
        refine Fact.op_guard (g := 10) (d := 108) (b := false) rfl rfl rfl ?_ (fun K hK => ?_)
        ·
         simp only [Fact.G, Nat.reduceEqDiff, Nat.reduceLT, reduceIte, hf.size, q1, Bool.not_true, Bool.not_false, bne_self_eq_false]
        go_simp
        refine hK.out _ _ ?_; clear hK K
        refine Fact.op_skip (g := 17) (d := 115) (b := true) rfl rfl rfl ?_ ?_
        ·
         simp only [Fact.G, Nat.reduceEqDiff, Nat.reduceLT, reduceIte, hf.size, Bool.not_true, Bool.not_false, q1, Bool.not_true, Bool.not_false, bne_self_eq_false]
        refine Fact.op_skip (g := 17) (d := 115) (b := true) rfl rfl rfl ?_ ?_
        ·
         simp only [Fact.G, Nat.reduceEqDiff, Nat.reduceLT, reduceIte, hf.size, Bool.not_true, Bool.not_false, q1, Bool.not_true, Bool.not_false, bne_self_eq_false]
        refine Fact.op_guard (g := 10) (d := 108) (b := false) rfl rfl rfl ?_ (fun K hK => ?_)
        ·
         simp only [Fact.G, Nat.reduceEqDiff, Nat.reduceLT, reduceIte, hf.size, q1, Bool.not_true, Bool.not_false, bne_self_eq_false]
        go_simp
        refine hK.out _ _ ?_; clear hK K
        refine Fact.p rfl fun K hK => ?_
        go_simp
        refine hK.out _ _ ?_; clear hK K
        refine Fact.p rfl fun K hK => ?_
        go_simp
        refine hK.out _ _ ?_; clear hK K
        refine Fact.op_guard (g := 22) (d := 120) (b := false) rfl rfl rfl ?_ (fun K hK => ?_)
        ·
         simp only [Fact.G, Nat.reduceEqDiff, Nat.reduceLT, reduceIte, hf.size, q1, Bool.not_true, Bool.not_false, bne_self_eq_false]
        go_simp
        refine hK.out _ _ ?_; clear hK K
        refine Fact.op_guard (g := 22) (d := 120) (b := false) rfl rfl rfl ?_ (fun K hK => ?_)
        ·
         simp only [Fact.G, Nat.reduceEqDiff, Nat.reduceLT, reduceIte, hf.size, q1, Bool.not_true, Bool.not_false, bne_self_eq_false]
        go_simp
        refine hK.out _ _ ?_; clear hK K
        refine Fact.op_guard (g := 22) (d := 120) (b := false) rfl rfl rfl ?_ (fun K hK => ?_)
        ·
         simp only [Fact.G, Nat.reduceEqDiff, Nat.reduceLT, reduceIte, hf.size, q1, Bool.not_true, Bool.not_false, bne_self_eq_false]
        go_simp
        go_at_call 21; refine (can21 w7 g q k hA7 S).mono ?_; rintro e w8 ⟨rfl, h8⟩
        rw [hcn]
        dsimp only
        refine hK.out _ _ ?_; clear hK K
        refine Fact.op_guard (g := 22) (d := 120) (b := false) rfl rfl rfl ?_ (fun K hK => ?_)
        ·
         simp only [Fact.G, Nat.reduceEqDiff, Nat.reduceLT, reduceIte, hf.size, q1, Bool.not_true, Bool.not_false, bne_self_eq_false]
        go_simp
        refine hK.out _ _ ?_; clear hK K
        refine Fact.op_skip (g := 26) (d := 124) (b := true) rfl rfl rfl ?_ ?_
        ·
         simp only [Fact.G, Nat.reduceEqDiff, Nat.reduceLT, reduceIte, hf.size, Bool.not_true, Bool.not_false, q1, Bool.not_true, Bool.not_false, bne_self_eq_false]
        refine Fact.op_skip (g := 26) (d := 124) (b := true) rfl rfl rfl ?_ ?_
        ·
         simp only [Fact.G, Nat.reduceEqDiff, Nat.reduceLT, reduceIte, hf.size, Bool.not_true, Bool.not_false, q1, Bool.not_true, Bool.not_false, bne_self_eq_false]
        refine Fact.op_skip (g := 26) (d := 124) (b := true) rfl rfl rfl ?_ ?_
        ·
         simp only [Fact.G, Nat.reduceEqDiff, Nat.reduceLT, reduceIte, hf.size, Bool.not_true, Bool.not_false, q1, Bool.not_true, Bool.not_false, bne_self_eq_false]
        refine Fact.op_skip (g := 26) (d := 124) (b := true) rfl rfl rfl ?_ ?_
        ·
         simp only [Fact.G, Nat.reduceEqDiff, Nat.reduceLT, reduceIte, hf.size, Bool.not_true, Bool.not_false, q1, Bool.not_true, Bool.not_false, bne_self_eq_false]
        refine Fact.op_guard (g := 22) (d := 120) (b := false) rfl rfl rfl ?_ (fun K hK => ?_)
        ·
         simp only [Fact.G, Nat.reduceEqDiff, Nat.reduceLT, reduceIte, hf.size, q1, Bool.not_true, Bool.not_false, bne_self_eq_false]
        go_simp
        refine hK.out _ _ ?_; clear hK K
        refine Fact.p rfl fun K hK => ?_
        go_simp
        refine hK.out _ _ ?_; clear hK K
        refine Fact.nil ?_
        refine Fact.reQ (n := 147) (by simp only [Fact.G, hf.size]) hf.defers (fun fr1 hf1 hT => ?_)
        have hKp : _ ∧ _ ∧ _ ∧ _ ∧ _ ∧ _ ∧ _ ∧ _ ∧ _ ∧ _ ∧ _ ∧ _ ∧ _ ∧ _ ∧ _ ∧ _ ∧ _ ∧ _ ∧ _ ∧ _ ∧ _ ∧ _ ∧ _ ∧ _ ∧ _ ∧ _ ∧ _ ∧ _ ∧ _ ∧ _ ∧ _ ∧ _ ∧ _ ∧ _ ∧ _ ∧ _ ∧ _ ∧ _ ∧ _ ∧ _ ∧ _ ∧ _ ∧ _ ∧ _ ∧ _ ∧ _ ∧ _ ∧ _ ∧ _ ∧ _ ∧ _ ∧ _ ∧ _ ∧ _ ∧ _ ∧ _ ∧ _ ∧ _ ∧ _ ∧ _ ∧ _ := ⟨hT 6, hT 9, hT 10, hT 11, hT 12, hT 13, hT 14, hT 15, hT 16, hT 17, hT 18, hT 19, hT 68, hT 69, hT 70, hT 71, hT 86, hT 87, hT 88, hT 89, hT 90, hT 91, hT 92, hT 93, hT 94, hT 95, hT 96, hT 97, hT 98, hT 99, hT 100, hT 101, hT 102, hT 103, hT 104, hT 105, hT 106, hT 107, hT 108, hT 109, hT 110, hT 111, hT 112, hT 113, hT 114, hT 115, hT 116, hT 117, hT 118, hT 119, hT 120, hT 121, hT 122, hT 123, hT 124, hT 125, hT 126, hT 127, hT 128, hT 129, hT 130⟩
        simp only [Fact.G, Nat.reduceEqDiff, Nat.reduceLT, reduceIte, hf.size, s6, s9, s10, s11, s12, s13, s14, s15, s16, s17, s18, s19, s68, s69, s70, s71, s86, s87, s88, s89, s90, s91, s92, s93, s94, s95, s96, s97] at hKp
        clear hT hf s6 s9 s10 s11 s12 s13 s14 s15 s16 s17 s18 s19 s68 s69 s70 s71 s86 s87 s88 s89 s90 s91 s92 s93 s94 s95 s96 s97 b98 b99 b100 b101 b102 b103 b104 b105 b106 b107 b108 b109 b110 b111 b112 b113 b114 b115 b116 b117 b118 b119 b120 b121 b122 b123 b124 b125 b126 b127 b128 b129
        obtain ⟨s6, s9, s10, s11, s12, s13, s14, s15, s16, s17, s18, s19, s68, s69, s70, s71, s86, s87, s88, s89, s90, s91, s92, s93, s94, s95, s96, s97, s98, s99, s100, s101, s102, s103, s104, s105, s106, s107, s108, s109, s110, s111, s112, s113, s114, s115, s116, s117, s118, s119, s120, s121, s122, s123, s124, s125, s126, s127, s128, s129, s130⟩ := hKp
        have hf := hf1; clear hf1
        refine Fact.then_normal ?_
        refine hK29 _ _ ?_
        try simp only [q1, bne_self_eq_false] at s130
        refine Fact.cond_f s130 ?_
        refine wp_skip ?_
        refine Fact.then_normal ?_
        skip
        exact ⟨hf, s6, s9, s10, s11, s12, s13, s14, hb8.trans (h8.mono hb8.size)⟩
       ·
        have hcT := HCAN.out hcn
        refine wp_seq_k (fun K30 hK30 => ?_)
        refine Fact.region ?_
        have b98 := hf.l 98 rfl
        have b99 := hf.l 99 rfl
        have b100 := hf.l 100 rfl
        have b101 := hf.l 101 rfl
        have b102 := hf.l 102 rfl
        have b103 := hf.l 103 rfl
        have b104 := hf.l 104 rfl
        have b105 := hf.l 105 rfl
        have b106 := hf.l 106 rfl
        have b107 := hf.l 107 rfl
        have b108 := hf.l 108 rfl
        have b109 := hf.l 109 rfl
        have b110 := hf.l 110 rfl
        have b111 := hf.l 111 rfl
        have b112 := hf.l 112 rfl
        have b113 := hf.l 113 rfl
        have b114 := hf.l 114 rfl
        have b115 := hf.l 115 rfl
        have b116 := hf.l 116 rfl
        have b117 := hf.l 117 rfl
        have b118 := hf.l 118 rfl
        have b119 := hf.l 119 rfl
        have b120 := hf.l 120 rfl
        have b121 := hf.l 121 rfl
        have b122 := hf.l 122 rfl
        have b123 := hf.l 123 rfl
        have b124 := hf.l 124 rfl
        have b125 := hf.l 125 rfl
        have b126 := hf.l 126 rfl
        have b127 := hf.l 127 rfl
        have b128 := hf.l 128 rfl
        have b129 := hf.l 129 rfl
        refine Fact.p rfl fun K hK => ?_
        go_simp
        refine hK.out _ _ ?_; clear hK K
        refine Fact.p rfl fun K hK => ?_
        go_simp
        refine hK.out _ _ ?_; clear hK K
        refine Fact.op_skip (g := 1) (d := 99) (b := true) rfl rfl rfl ?_ ?_
        ·
         simp only [Fact.G, Nat.reduceEqDiff, Nat.reduceLT, reduceIte, hf.size, Bool.not_true, Bool.not_false, q1, Bool.not_true, Bool.not_false, bne_self_eq_false]
        refine Fact.op_skip (g := 1) (d := 99) (b := true) rfl rfl rfl ?_ ?_
        ·
         simp only [Fact.G, Nat.reduceEqDiff, Nat.reduceLT, reduceIte, hf.size, Bool.not_true, Bool.not_false, q1, Bool.not_true, Bool.not_false, bne_self_eq_false]
        refine Fact.op_skip (g := 1) (d := 99) (b := true) rfl rfl rfl ?_ ?_
        ·
         simp only [Fact.G, Nat.reduceEqDiff, Nat.reduceLT, reduceIte, hf.size, Bool.not_true, Bool.not_false, q1, Bool.not_true, Bool.not_false, bne_self_eq_false]
        refine Fact.op_skip' (g := 4) (d := 102) (b := false) rfl rfl rfl ?_ ?_
        ·
         simp only [Fact.G, Nat.reduceEqDiff, Nat.reduceLT, reduceIte, hf.size, Bool.not_true, Bool.not_false, q1, Bool.not_true, Bool.not_false, bne_self_eq_false]
        refine Fact.op_skip' (g := 4) (d := 102) (b := false) rfl rfl rfl ?_ ?_
        ·
         simp only [Fact.G, Nat.reduceEqDiff, Nat.reduceLT, reduceIte, hf.size, Bool.not_true, Bool.not_false, q1, Bool.not_true, Bool.not_false, bne_self_eq_false]
        refine Fact.op_skip' (g := 4) (d := 102) (b := false) rfl rfl rfl ?_ ?_
        ·
         simp only [Fact.G, Nat.reduceEqDiff, Nat.reduceLT, reduceIte, hf.size, Bool.not_true, Bool.not_false, q1, Bool.not_true, Bool.not_false, bne_self_eq_false]
        refine Fact.op_skip (g := 1) (d := 99) (b := true) rfl rfl rfl ?_ ?_
        ·
         simp only [Fact.G, Nat.reduceEqDiff, Nat.reduceLT, reduceIte, hf.size, Bool.not_true, Bool.not_false, q1, Bool.not_true, Bool.not_false, bne_self_eq_false]
        refine Fact.p rfl fun K hK => ?_
        go_simp
        refine hK.out _ _ ?_; clear hK K
        refine Fact.p rfl fun K hK => ?_
        go_simp
        refine hK.out _ _ ?_; clear hK K
        refine Fact.op_guard (g := 10) (d := 108) (b := false) rfl rfl rfl ?_ (fun K hK => ?_)
        ·
         simp only [Fact.G, Nat.reduceEqDiff, Nat.reduceLT, reduceIte, hf.size, q1, Bool.not_true, Bool.not_false, bne_self_eq_false]
        go_simp
        refine hK.out _ _ ?_; clear hK K
        refine Fact.op_guard (g := 10) (d := 108) (b := false) rfl rfl rfl ?_ (fun K hK => ?_)
        ·
         simp only [Fact.G, Nat.reduceEqDiff, Nat.reduceLT, reduceIte, hf.size, q1, Bool.not_true, Bool.not_false, bne_self_eq_false]
        go_simp
        refine hK.out _ _ ?_; clear hK K
        refine Fact.op_guard (g := 12) (d := 110) (b := true) rfl rfl rfl ?_ (fun K hK => ?_)
        ·
         simp only [Fact.G, Nat.reduceEqDiff, Nat.reduceLT, reduceIte, hf.size, q1, Bool.not_true, Bool.not_false, bne_self_eq_false]
        go_simp
        refine hK.out _ _ ?_; clear hK K
        refine Fact.op_guard (g := 12) (d := 110) (b := true) rfl rfl rfl ?_ (fun K hK => ?_)
        ·
         simp only [Fact.G, Nat.reduceEqDiff, Nat.reduceLT, reduceIte, hf.size, q1, Bool.not_true, Bool.not_false, bne_self_eq_false]
        go_simp
        refine hK.out _ _ ?_; clear hK K
        refine Fact.op_guard (g := 12) (d := 110) (b := true) rfl rfl rfl ?_ (fun K hK => ?_)
        ·
         simp only [Fact.G, Nat.reduceEqDiff, Nat.reduceLT, reduceIte, hf.size, q1, Bool.not_true, Bool.not_false, bne_self_eq_false]
        go_simp
        refine hK.out _ _ ?_; clear hK K
        refine Fact.op_guard (g := 10) (d := 108) (b := false) rfl rfl rfl ?_ (fun K hK => ?_)
        ·
         simp only [Fact.G, Nat.reduceEqDiff, Nat.reduceLT, reduceIte, hf.size, q1, Bool.not_true, Bool.not_false, bne_self_eq_false]
        go_simp
        refine hK.out _ _ ?_; clear hK K
        refine Fact.op_guard (g := 10) (d := 108) (b := false) rfl rfl rfl ?_ (fun K hK => ?_)
        ·
         simp only [Fact.G, Nat.reduceEqDiff, Nat.reduceLT, reduceIte, hf.size, q1, Bool.not_true, Bool.not_false, bne_self_eq_false]
        go_simp
        refine hK.out _ _ ?_; clear hK K
        refine Fact.op_skip (g := 17) (d := 115) (b := true) rfl rfl rfl ?_ ?_
        ·
         simp only [Fact.G, Nat.reduceEqDiff, Nat.reduceLT, reduceIte, hf.size, Bool.not_true, Bool.not_false, q1, Bool.not_true, Bool.not_false, bne_self_eq_false]
        refine Fact.op_skip (g := 17) (d := 115) (b := true) rfl rfl rfl ?_ ?_
        ·
         simp only [Fact.G, Nat.reduceEqDiff, Nat.reduceLT, reduceIte, hf.size, Bool.not_true, Bool.not_false, q1, Bool.not_true, Bool.not_false, bne_self_eq_false]
        refine Fact.op_guard (g := 10) (d := 108) (b := false) rfl rfl rfl ?_ (fun K hK => ?_)
        ·
         simp only [Fact.G, Nat.reduceEqDiff, Nat.reduceLT, reduceIte, hf.size, q1, Bool.not_true, Bool.not_false, bne_self_eq_false]
        go_simp
        refine hK.out _ _ ?_; clear hK K
        refine Fact.p rfl fun K hK => ?_
        go_simp
        refine hK.out _ _ ?_; clear hK K
        refine Fact.p rfl fun K hK => ?_
        go_simp
        refine hK.out _ _ ?_; clear hK K
        refine Fact.op_guard (g := 22) (d := 120) (b := false) rfl rfl rfl ?_ (fun K hK => ?_)
        ·
         simp only [Fact.G, Nat.reduceEqDiff, Nat.reduceLT, reduceIte, hf.size, q1, Bool.not_true, Bool.not_false, bne_self_eq_false]
        go_simp
        refine hK.out _ _ ?_; clear hK K
        refine Fact.op_guard (g := 22) (d := 120) (b := false) rfl rfl rfl ?_ (fun K hK => ?_)
        ·
         simp only [Fact.G, Nat.reduceEqDiff, Nat.reduceLT, reduceIte, hf.size, q1, Bool.not_true, Bool.not_false, bne_self_eq_false]
        go_simp
        refine hK.out _ _ ?_; clear hK K
        refine Fact.op_guard (g := 22) (d := 120) (b := false) rfl rfl rfl ?_ (fun K hK => ?_)
        ·
         simp only [Fact.G, Nat.reduceEqDiff, Nat.reduceLT, reduceIte, hf.size, q1, Bool.not_true, Bool.not_false, bne_self_eq_false]
        go_simp
        go_at_call 21; refine (can21 w7 g q k hA7 S).mono ?_; rintro e w8 ⟨rfl, h8⟩
        rw [hcn]
        dsimp only
        refine hK.out _ _ ?_; clear hK K
        refine Fact.op_guard (g := 22) (d := 120) (b := false) rfl rfl rfl ?_ (fun K hK => ?_)
        ·
         simp only [Fact.G, Nat.reduceEqDiff, Nat.reduceLT, reduceIte, hf.size, q1, Bool.not_true, Bool.not_false, bne_self_eq_false]
        go_simp
        refine hK.out _ _ ?_; clear hK K
        refine Fact.op_guard (g := 26) (d := 124) (b := true) rfl rfl rfl ?_ (fun K hK => ?_)
        ·
         simp only [Fact.G, Nat.reduceEqDiff, Nat.reduceLT, reduceIte, hf.size, q1, Bool.not_true, Bool.not_false, bne_self_eq_false]
        go_simp
        refine hK.out _ _ ?_; clear hK K
        refine Fact.op_guard (g := 26) (d := 124) (b := true) rfl rfl rfl ?_ (fun K hK => ?_)
        ·
         simp only [Fact.G, Nat.reduceEqDiff, Nat.reduceLT, reduceIte, hf.size, q1, Bool.not_true, Bool.not_false, bne_self_eq_false]
        go_simp
        refine hK.out _ _ ?_; clear hK K
        refine Fact.op_guard (g := 26) (d := 124) (b := true) rfl rfl rfl ?_ (fun K hK => ?_)
        ·
         simp only [Fact.G, Nat.reduceEqDiff, Nat.reduceLT, reduceIte, hf.size, q1, Bool.not_true, Bool.not_false, bne_self_eq_false]
        go_simp
        go_at_call 21; refine (can21 w8 u q m (hB7.later h8) T).mono ?_; rintro e w9 ⟨rfl, h9⟩
        rw [hcT]
        dsimp only
        refine hK.out _ _ ?_; clear hK K
        refine Fact.op_guard (g := 26) (d := 124) (b := true) rfl rfl rfl ?_ (fun K hK => ?_)
        ·
         simp only [Fact.G, Nat.reduceEqDiff, Nat.reduceLT, reduceIte, hf.size, q1, Bool.not_true, Bool.not_false, bne_self_eq_false]
        go_simp
        refine hK.out _ _ ?_; clear hK K
        refine Fact.op_guard (g := 22) (d := 120) (b := false) rfl rfl rfl ?_ (fun K hK => ?_)
        ·
         simp only [Fact.G, Nat.reduceEqDiff, Nat.reduceLT, reduceIte, hf.size, q1, Bool.not_true, Bool.not_false, bne_self_eq_false]
        go_simp
        refine hK.out _ _ ?_; clear hK K
        refine Fact.p rfl fun K hK => ?_
        go_simp
        refine hK.out _ _ ?_; clear hK K
        refine Fact.nil ?_
        refine Fact.reQ (n := 147) (by simp only [Fact.G, hf.size]) hf.defers (fun fr1 hf1 hT => ?_)
        have hKp : _ ∧ _ ∧ _ ∧ _ ∧ _ ∧ _ ∧ _ ∧ _ ∧ _ ∧ _ ∧ _ ∧ _ ∧ _ ∧ _ ∧ _ ∧ _ ∧ _ ∧ _ ∧ _ ∧ _ ∧ _ ∧ _ ∧ _ ∧ _ ∧ _ ∧ _ ∧ _ ∧ _ ∧ _ ∧ _ ∧ _ ∧ _ ∧ _ ∧ _ ∧ _ ∧ _ ∧ _ ∧ _ ∧ _ ∧ _ ∧ _ ∧ _ ∧ _ ∧ _ ∧ _ ∧ _ ∧ _ ∧ _ ∧ _ ∧ _ ∧ _ ∧ _ ∧ _ ∧ _ ∧ _ ∧ _ ∧ _ ∧ _ ∧ _ ∧ _ ∧ _ := ⟨hT 6, hT 9, hT 10, hT 11, hT 12, hT 13, hT 14, hT 15, hT 16, hT 17, hT 18, hT 19, hT 68, hT 69, hT 70, hT 71, hT 86, hT 87, hT 88, hT 89, hT 90, hT 91, hT 92, hT 93, hT 94, hT 95, hT 96, hT 97, hT 98, hT 99, hT 100, hT 101, hT 102, hT 103, hT 104, hT 105, hT 106, hT 107, hT 108, hT 109, hT 110, hT 111, hT 112, hT 113, hT 114, hT 115, hT 116, hT 117, hT 118, hT 119, hT 120, hT 121, hT 122, hT 123, hT 124, hT 125, hT 126, hT 127, hT 128, hT 129, hT 130⟩
        simp only [Fact.G, Nat.reduceEqDiff, Nat.reduceLT, reduceIte, hf.size, s6, s9, s10, s11, s12, s13, s14, s15, s16, s17, s18, s19, s68, s69, s70, s71, s86, s87, s88, s89, s90, s91, s92, s93, s94, s95, s96, s97] at hKp
        clear hT hf s6 s9 s10 s11 s12 s13 s14 s15 s16 s17 s18 s19 s68 s69 s70 s71 s86 s87 s88 s89 s90 s91 s92 s93 s94 s95 s96 s97 b98 b99 b100 b101 b102 b103 b104 b105 b106 b107 b108 b109 b110 b111 b112 b113 b114 b115 b116 b117 b118 b119 b120 b121 b122 b123 b124 b125 b126 b127 b128 b129
        obtain ⟨s6, s9, s10, s11, s12, s13, s14, s15, s16, s17, s18, s19, s68, s69, s70, s71, s86, s87, s88, s89, s90, s91, s92, s93, s94, s95, s96, s97, s98, s99, s100, s101, s102, s103, s104, s105, s106, s107, s108, s109, s110, s111, s112, s113, s114, s115, s116, s117, s118, s119, s120, s121, s122, s123, s124, s125, s126, s127, s128, s129, s130⟩ := hKp
        have hf := hf1; clear hf1
        refine Fact.then_normal ?_
        refine hK30 _ _ ?_
        try simp only [q1, bne_self_eq_false] at s130
        refine Fact.cond_f s130 ?_
        refine wp_skip ?_
        refine Fact.then_normal ?_
        skip
        exact ⟨hf, s6, s9, s10, s11, s12, s13, s14, hb8.trans ((h8.trans (h9.mono h8.size)).mono hb8.size)⟩
      ·
       have i1 : isS q k S = false := by rw [his]; exact decide_eq_false (by omega)
       have i2 : isS q m T = false := by rw [hso]; exact decide_eq_false (by omega)
       rw [i1] at s17; rw [i2] at s19
       have q1 := trivial
       rcases hcn : canS q k S with _ | _
       ·
        refine wp_seq_k (fun K31 hK31 => ?_)
        refine Fact.region ?_
        have b98 := hf.l 98 rfl
        have b99 := hf.l 99 rfl
        have b100 := hf.l 100 rfl
        have b101 := hf.l 101 rfl
        have b102 := hf.l 102 rfl
        have b103 := hf.l 103 rfl
        have b104 := hf.l 104 rfl
        have b105 := hf.l 105 rfl
        have b106 := hf.l 106 rfl
        have b107 := hf.l 107 rfl
        have b108 := hf.l 108 rfl
        have b109 := hf.l 109 rfl
        have b110 := hf.l 110 rfl
        have b111 := hf.l 111 rfl
        have b112 := hf.l 112 rfl
        have b113 := hf.l 113 rfl
        have b114 := hf.l 114 rfl
        have b115 := hf.l 115 rfl
        have b116 := hf.l 116 rfl
        have b117 := hf.l 117 rfl
        have b118 := hf.l 118 rfl
        have b119 := hf.l 119 rfl
        have b120 := hf.l 120 rfl
        have b121 := hf.l 121 rfl
        have b122 := hf.l 122 rfl
        have b123 := hf.l 123 rfl
        have b124 := hf.l 124 rfl
        have b125 := hf.l 125 rfl
        have b126 := hf.l 126 rfl
        have b127 := hf.l 127 rfl
        have b128 := hf.l 128 rfl
        have b129 := hf.l 129 rfl
        refine Fact.p rfl fun K hK => ?_
        go_simp
        refine hK.out _ _ ?_; clear hK K
        refine Fact.p rfl fun K hK => ?_
        go_simp
        refine hK.out _ _ ?_; clear hK K
        refine Fact.op_skip (g := 1) (d := 99) (b := true) rfl rfl rfl ?_ ?_
        ·
         simp only [Fact.G, Nat.reduceEqDiff, Nat.reduceLT, reduceIte, hf.size, Bool.not_true, Bool.not_false, Bool.not_true, Bool.not_false]
        refine Fact.op_skip (g := 1) (d := 99) (b := true) rfl rfl rfl ?_ ?_
        ·
         simp only [Fact.G, Nat.reduceEqDiff, Nat.reduceLT, reduceIte, hf.size, Bool.not_true, Bool.not_false, Bool.not_true, Bool.not_false]
        refine Fact.op_skip (g := 1) (d := 99) (b := true) rfl rfl rfl ?_ ?_
        ·
         simp only [Fact.G, Nat.reduceEqDiff, Nat.reduceLT, reduceIte, hf.size, Bool.not_true, Bool.not_false, Bool.not_true, Bool.not_false]
        refine Fact.op_skip' (g := 4) (d := 102) (b := false) rfl rfl rfl ?_ ?_
        ·
         simp only [Fact.G, Nat.reduceEqDiff, Nat.reduceLT, reduceIte, hf.size, Bool.not_true, Bool.not_false, Bool.not_true, Bool.not_false]
        refine Fact.op_skip' (g := 4) (d := 102) (b := false) rfl rfl rfl ?_ ?_
        ·
         simp only [Fact.G, Nat.reduceEqDiff, Nat.reduceLT, reduceIte, hf.size, Bool.not_true, Bool.not_false, Bool.not_true, Bool.not_false]
        refine Fact.op_skip' (g := 4) (d := 102) (b := false) rfl rfl rfl ?_ ?_
        ·
         simp only [Fact.G, Nat.reduceEqDiff, Nat.reduceLT, reduceIte, hf.size, Bool.not_true, Bool.not_false, Bool.not_true, Bool.not_false]
        refine Fact.op_skip (g := 1) (d := 99) (b := true) rfl rfl rfl ?_ ?_
        ·
         simp only [Fact.G, Nat.reduceEqDiff, Nat.reduceLT, reduceIte, hf.size, Bool.not_true, Bool.not_false, Bool.not_true, Bool.not_false]
        refine Fact.p rfl fun K hK => ?_
        go_simp
        refine hK.out _ _ ?_; clear hK K
        refine Fact.p rfl fun K hK => ?_
        go_simp
        refine hK.out _ _ ?_; clear hK K
        refine Fact.op_guard (g := 10) (d := 108) (b := false) rfl rfl rfl ?_ (fun K hK => ?_)
        ·
         simp only [Fact.G, Nat.reduceEqDiff, Nat.reduceLT, reduceIte, hf.size, Bool.not_true, Bool.not_false]
        go_simp
        refine hK.out _ _ ?_; clear hK K
        refine Fact.op_guard (g := 10) (d := 108) (b := false) rfl rfl rfl ?_ (fun K hK => ?_)
        ·
         simp only [Fact.G, Nat.reduceEqDiff, Nat.reduceLT, reduceIte, hf.size, Bool.not_true, Bool.not_false]
        go_simp
        refine hK.out _ _ ?_; clear hK K
        refine Fact.op_skip (g := 12) (d := 110) (b := true) rfl rfl rfl ?_ ?_
        ·
         simp only [Fact.G, Nat.reduceEqDiff, Nat.reduceLT, reduceIte, hf.size, Bool.not_true, Bool.not_false, Bool.not_true, Bool.not_false]
        refine Fact.op_skip (g := 12) (d := 110) (b := true) rfl rfl rfl ?_ ?_
        ·
         simp only [Fact.G, Nat.reduceEqDiff, Nat.reduceLT, reduceIte, hf.size, Bool.not_true, Bool.not_false, Bool.not_true, Bool.not_false]
        refine Fact.op_skip (g := 12) (d := 110) (b := true) rfl rfl rfl ?_ ?_
        ·
         simp only [Fact.G, Nat.reduceEqDiff, Nat.reduceLT, reduceIte, hf.size, Bool.not_true, Bool.not_false, Bool.not_true, Bool.not_false]
        refine Fact.op_guard (g := 10) (d := 108) (b := false) rfl rfl rfl ?_ (fun K hK => ?_)
        ·
         simp only [Fact.G, Nat.reduceEqDiff, Nat.reduceLT, reduceIte, hf.size, Bool.not_true, Bool.not_false]
        go_simp
        refine hK.out _ _ ?_; clear hK K
        refine Fact.op_guard (g := 10) (d := 108) (b := false) rfl rfl rfl ?_ (fun K hK => ?_)
        ·
         simp only [Fact.G, Nat.reduceEqDiff, Nat.reduceLT, reduceIte, hf.size, Bool.not_true, Bool.not_false]
        go_simp
        refine hK.out _ _ ?_; clear hK K
        refine Fact.op_skip (g := 17) (d := 115) (b := true) rfl rfl rfl ?_ ?_
        ·
         simp only [Fact.G, Nat.reduceEqDiff, Nat.reduceLT, reduceIte, hf.size, Bool.not_true, Bool.not_false, Bool.not_true, Bool.not_false]
        refine Fact.op_skip (g := 17) (d := 115) (b := true) rfl rfl rfl ?_ ?_
        ·
         simp only [Fact.G, Nat.reduceEqDiff, Nat.reduceLT, reduceIte, hf.size, Bool.not_true, Bool.not_false, Bool.not_true, Bool.not_false]
        refine Fact.op_guard (g := 10) (d := 108) (b := false) rfl rfl rfl ?_ (fun K hK => ?_)
        ·
         simp only [Fact.G, Nat.reduceEqDiff, Nat.reduceLT, reduceIte, hf.size, Bool.not_true, Bool.not_false]
        go_simp
        refine hK.out _ _ ?_; clear hK K
        refine Fact.p rfl fun K hK => ?_
        go_simp
        refine hK.out _ _ ?_; clear hK K
        refine Fact.p rfl fun K hK => ?_
        go_simp
        refine hK.out _ _ ?_; clear hK K
        refine Fact.op_guard (g := 22) (d := 120) (b := false) rfl rfl rfl ?_ (fun K hK => ?_)
        ·
         simp only [Fact.G, Nat.reduceEqDiff, Nat.reduceLT, reduceIte, hf.size, Bool.not_true, Bool.not_false]
        go_simp
        refine hK.out _ _ ?_; clear hK K
        refine Fact.op_guard (g := 22) (d := 120) (b := false) rfl rfl rfl ?_ (fun K hK => ?_)
        ·
         simp only [Fact.G, Nat.reduceEqDiff, Nat.reduceLT, reduceIte, hf.size, Bool.not_true, Bool.not_false]
        go_simp
        refine hK.out _ _ ?_; clear hK K
        refine Fact.op_guard (g := 22) (d := 120) (b := false) rfl rfl rfl ?_ (fun K hK => ?_)
        ·
         simp only [Fact.G, Nat.reduceEqDiff, Nat.reduceLT, reduceIte, hf.size, Bool.not_true, Bool.not_false]
        go_simp
        go_at_call 21; refine (can21 w7 g q k hA7 S).mono ?_; rintro e w8 ⟨rfl, h8⟩
        rw [hcn]
        dsimp only
        refine hK.out _ _ ?_; clear hK K
        refine Fact.op_guard (g := 22) (d := 120) (b := false) rfl rfl rfl ?_ (fun K hK => ?_)
        ·
         simp only [Fact.G, Nat.reduceEqDiff, Nat.reduceLT, reduceIte, hf.size, Bool.not_true, Bool.not_false]
        go_simp
        refine hK.out _ _ ?_; clear hK K
        refine Fact.op_skip (g := 26) (d := 124) (b := true) rfl rfl rfl ?_ ?_
        ·
         simp only [Fact.G, Nat.reduceEqDiff, Nat.reduceLT, reduceIte, hf.size, Bool.not_true, Bool.not_false, Bool.not_true, Bool.not_false]
        refine Fact.op_skip (g := 26) (d := 124) (b := true) rfl rfl rfl ?_ ?_
        ·
         simp only [Fact.G, Nat.reduceEqDiff, Nat.reduceLT, reduceIte, hf.size, Bool.not_true, Bool.not_false, Bool.not_true, Bool.not_false]
        refine Fact.op_skip (g := 26) (d := 124) (b := true) rfl rfl rfl ?_ ?_
        ·
         simp only [Fact.G, Nat.reduceEqDiff, Nat.reduceLT, reduceIte, hf.size, Bool.not_true, Bool.not_false, Bool.not_true, Bool.not_false]
        refine Fact.op_skip (g := 26) (d := 124) (b := true) rfl rfl rfl ?_ ?_
        ·
         simp only [Fact.G, Nat.reduceEqDiff, Nat.reduceLT, reduceIte, hf.size, Bool.not_true, Bool.not_false, Bool.not_true, Bool.not_false]
        refine Fact.op_guard (g := 22) (d := 120) (b := false) rfl rfl rfl ?_ (fun K hK => ?_)
        ·
         simp only [Fact.G, Nat.reduceEqDiff, Nat.reduceLT, reduceIte, hf.size, Bool.not_true, Bool.not_false]
        go_simp
        refine hK.out _ _ ?_; clear hK K
        refine Fact.p rfl fun K hK => ?_
        go_simp
        refine hK.out _ _ ?_; clear hK K
        refine Fact.nil ?_
        refine Fact.reQ (n := 147) (by simp only [Fact.G, hf.size]) hf.defers (fun fr1 hf1 hT => ?_)
        have hKp : _ ∧ _ ∧ _ ∧ _ ∧ _ ∧ _ ∧ _ ∧ _ ∧ _ ∧ _ ∧ _ ∧ _ ∧ _ ∧ _ ∧ _ ∧ _ ∧ _ ∧ _ ∧ _ ∧ _ ∧ _ ∧ _ ∧ _ ∧ _ ∧ _ ∧ _ ∧ _ ∧ _ ∧ _ ∧ _ ∧ _ ∧ _ ∧ _ ∧ _ ∧ _ ∧ _ ∧ _ ∧ _ ∧ _ ∧ _ ∧ _ ∧ _ ∧ _ ∧ _ ∧ _ ∧ _ ∧ _ ∧ _ ∧ _ ∧ _ ∧ _ ∧ _ ∧ _ ∧ _ ∧ _ ∧ _ ∧ _ ∧ _ ∧ _ ∧ _ ∧ _ := ⟨hT 6, hT 9, hT 10, hT 11, hT 12, hT 13, hT 14, hT 15, hT 16, hT 17, hT 18, hT 19, hT 68, hT 69, hT 70, hT 71, hT 86, hT 87, hT 88, hT 89, hT 90, hT 91, hT 92, hT 93, hT 94, hT 95, hT 96, hT 97, hT 98, hT 99, hT 100, hT 101, hT 102, hT 103, hT 104, hT 105, hT 106, hT 107, hT 108, hT 109, hT 110, hT 111, hT 112, hT 113, hT 114, hT 115, hT 116, hT 117, hT 118, hT 119, hT 120, hT 121, hT 122, hT 123, hT 124, hT 125, hT 126, hT 127, hT 128, hT 129, hT 130⟩
        simp only [Fact.G, Nat.reduceEqDiff, Nat.reduceLT, reduceIte, hf.size, s6, s9, s10, s11, s12, s13, s14, s15, s16, s17, s18, s19, s68, s69, s70, s71, s86, s87, s88, s89, s90, s91, s92, s93, s94, s95, s96, s97] at hKp
        clear hT hf s6 s9 s10 s11 s12 s13 s14 s15 s16 s17 s18 s19 s68 s69 s70 s71 s86 s87 s88 s89 s90 s91 s92 s93 s94 s95 s96 s97 b98 b99 b100 b101 b102 b103 b104 b105 b106 b107 b108 b109 b110 b111 b112 b113 b114 b115 b116 b117 b118 b119 b120 b121 b122 b123 b124 b125 b126 b127 b128 b129
        obtain ⟨s6, s9, s10, s11, s12, s13, s14, s15, s16, s17, s18, s19, s68, s69, s70, s71, s86, s87, s88, s89, s90, s91, s92, s93, s94, s95, s96, s97, s98, s99, s100, s101, s102, s103, s104, s105, s106, s107, s108, s109, s110, s111, s112, s113, s114, s115, s116, s117, s118, s119, s120, s121, s122, s123, s124, s125, s126, s127, s128, s129, s130⟩ := hKp
        have hf := hf1; clear hf1
        refine Fact.then_normal ?_
        refine hK31 _ _ ?_
        try simp only [q1, bne_self_eq_false] at s130
        refine Fact.cond_f s130 ?_
        refine wp_skip ?_
        refine Fact.then_normal ?_
        skip
        exact ⟨hf, s6, s9, s10, s11, s12, s13, s14, hb8.trans (h8.mono hb8.size)⟩
       ·
        have hcT := HCAN.out hcn
        refine wp_seq_k (fun K32 hK32 => ?_)
        refine Fact.region ?_
        have b98 := hf.l 98 rfl
        have b99 := hf.l 99 rfl
        have b100 := hf.l 100 rfl
        have b101 := hf.l 101 rfl
        have b102 := hf.l 102 rfl
        have b103 := hf.l 103 rfl
        have b104 := hf.l 104 rfl
        have b105 := hf.l 105 rfl
        have b106 := hf.l 106 rfl
        have b107 := hf.l 107 rfl
        have b108 := hf.l 108 rfl
        have b109 := hf.l 109 rfl
        have b110 := hf.l 110 rfl
        have b111 := hf.l 111 rfl
        have b112 := hf.l 112 rfl
        have b113 := hf.l 113 rfl
        have b114 := hf.l 114 rfl
        have b115 := hf.l 115 rfl
        have b116 := hf.l 116 rfl
        have b117 := hf.l 117 rfl
        have b118 := hf.l 118 rfl
        have b119 := hf.l 119 rfl
        have b120 := hf.l 120 rfl
        have b121 := hf.l 121 rfl
        have b122 := hf.l 122 rfl
        have b123 := hf.l 123 rfl
        have b124 := hf.l 124 rfl
        have b125 := hf.l 125 rfl
        have b126 := hf.l 126 rfl
        have b127 := hf.l 127 rfl
        have b128 := hf.l 128 rfl
        have b129 := hf.l 129 rfl
        refine Fact.p rfl fun K hK => ?_
        go_simp
        refine hK.out _ _ ?_; clear hK K
        refine Fact.p rfl fun K hK => ?_
        go_simp
        refine hK.out _ _ ?_; clear hK K
        refine Fact.op_skip (g := 1) (d := 99) (b := true) rfl rfl rfl ?_ ?_
        ·
         simp only [Fact.G, Nat.reduceEqDiff, Nat.reduceLT, reduceIte, hf.size, Bool.not_true, Bool.not_false, Bool.not_true, Bool.not_false]
        refine Fact.op_skip (g := 1) (d := 99) (b := true) rfl rfl rfl ?_ ?_
        ·
         simp only [Fact.G, Nat.reduceEqDiff, Nat.reduceLT, reduceIte, hf.size, Bool.not_true, Bool.not_false, Bool.not_true, Bool.not_false]
        refine Fact.op_skip (g := 1) (d := 99) (b := true) rfl rfl rfl ?_ ?_
        ·
         simp only [Fact.G, Nat.reduceEqDiff, Nat.reduceLT, reduceIte, hf.size, Bool.not_true, Bool.not_false, Bool.not_true, Bool.not_false]
        refine Fact.op_skip' (g := 4) (d := 102) (b := false) rfl rfl rfl ?_ ?_
        ·
         simp only [Fact.G, Nat.reduceEqDiff, Nat.reduceLT, reduceIte, hf.size, Bool.not_true, Bool.not_false, Bool.not_true, Bool.not_false]
        refine Fact.op_skip' (g := 4) (d := 102) (b := false) rfl rfl rfl ?_ ?_
        ·
         simp only [Fact.G, Nat.reduceEqDiff, Nat.reduceLT, reduceIte, hf.size, Bool.not_true, Bool.not_false, Bool.not_true, Bool.not_false]
        refine Fact.op_skip' (g := 4) (d := 102) (b := false) rfl rfl rfl ?_ ?_
        ·
         simp only [Fact.G, Nat.reduceEqDiff, Nat.reduceLT, reduceIte, hf.size, Bool.not_true, Bool.not_false, Bool.not_true, Bool.not_false]
        refine Fact.op_skip (g := 1) (d := 99) (b := true) rfl rfl rfl ?_ ?_
        ·
         simp only [Fact.G, Nat.reduceEqDiff, Nat.reduceLT, reduceIte, hf.size, Bool.not_true, Bool.not_false, Bool.not_true, Bool.not_false]
        refine Fact.p rfl fun K hK => ?_
        go_simp
        refine hK.out _ _ ?_; clear hK K
        refine Fact.p rfl fun K hK => ?_
        go_simp
        refine hK.out _ _ ?_; clear hK K
        refine Fact.op_guard (g := 10) (d := 108) (b := false) rfl rfl rfl ?_ (fun K hK => ?_)
        ·
         simp only [Fact.G, Nat.reduceEqDiff, Nat.reduceLT, reduceIte, hf.size, Bool.not_true, Bool.not_false]
        go_simp
        refine hK.out _ _ ?_; clear hK K
        refine Fact.op_guard (g := 10) (d := 108) (b := false) rfl rfl rfl ?_ (fun K hK => ?_)
        ·
         simp only [Fact.G, Nat.reduceEqDiff, Nat.reduceLT, reduceIte, hf.size, Bool.not_true, Bool.not_false]
        go_simp
        refine hK.out _ _ ?_; clear hK K
        refine Fact.op_skip (g := 12) (d := 110) (b := true) rfl rfl rfl ?_ ?_
        ·
         simp only [Fact.G, Nat.reduceEqDiff, Nat.reduceLT, reduceIte, hf.size, Bool.not_true, Bool.not_false, Bool.not_true, Bool.not_false]
        refine Fact.op_skip (g := 12) (d := 110) (b := true) rfl rfl rfl ?_ ?_
        ·
         simp only [Fact.G, Nat.reduceEqDiff, Nat.reduceLT, reduceIte, hf.size, Bool.not_true, Bool.not_false, Bool.not_true, Bool.not_false]
        refine Fact.op_skip (g := 12) (d := 110) (b := true) rfl rfl rfl ?_ ?_
        ·
         simp only [Fact.G, Nat.reduceEqDiff, Nat.reduceLT, reduceIte, hf.size, Bool.not_true, Bool.not_false, Bool.not_true, Bool.not_false]
        refine Fact.op_guard (g := 10) (d := 108) (b := false) rfl rfl rfl ?_ (fun K hK => ?_)
        ·
         simp only [Fact.G, Nat.reduceEqDiff, Nat.reduceLT, reduceIte, hf.size, Bool.not_true, Bool.not_false]
        go_simp
        refine hK.out _ _ ?_; clear hK K
        refine Fact.op_guard (g := 10) (d := 108) (b := false) rfl rfl rfl ?_ (fun K hK => ?_)
        ·
         simp only [Fact.G, Nat.reduceEqDiff, Nat.reduceLT, reduceIte, hf.size, Bool.not_true, Bool.not_false]
        go_simp
        refine hK.out _ _ ?_; clear hK K
        refine Fact.op_skip (g := 17) (d := 115) (b := true) rfl rfl rfl ?_ ?_
        ·
         simp only [Fact.G, Nat.reduceEqDiff, Nat.reduceLT, reduceIte, hf.size, Bool.not_true, Bool.not_false, Bool.not_true, Bool.not_false]
        refine Fact.op_skip (g := 17) (d := 115) (b := true) rfl rfl rfl ?_ ?_
        ·
         simp only [Fact.G, Nat.reduceEqDiff, Nat.reduceLT, reduceIte, hf.size, Bool.not_true, Bool.not_false, Bool.not_true, Bool.not_false]
        refine Fact.op_guard (g := 10) (d := 108) (b := false) rfl rfl rfl ?_ (fun K hK => ?_)
        ·
         simp only [Fact.G, Nat.reduceEqDiff, Nat.reduceLT, reduceIte, hf.size, Bool.not_true, Bool.not_false]
        go_simp
        refine hK.out _ _ ?_; clear hK K
        refine Fact.p rfl fun K hK => ?_
        go_simp
        refine hK.out _ _ ?_; clear hK K
        refine Fact.p rfl fun K hK => ?_
        go_simp
        refine hK.out _ _ ?_; clear hK K
        refine Fact.op_guard (g := 22) (d := 120) (b := false) rfl rfl rfl ?_ (fun K hK => ?_)
        ·
         simp only [Fact.G, Nat.reduceEqDiff, Nat.reduceLT, reduceIte, hf.size, Bool.not_true, Bool.not_false]
        go_simp
        refine hK.out _ _ ?_; clear hK K
        refine Fact.op_guard (g := 22) (d := 120) (b := false) rfl rfl rfl ?_ (fun K hK => ?_)
        ·
         simp only [Fact.G, Nat.reduceEqDiff, Nat.reduceLT, reduceIte, hf.size, Bool.not_true, Bool.not_false]
        go_simp
        refine hK.out _ _ ?_; clear hK K
        refine Fact.op_guard (g := 22) (d := 120) (b := false) rfl rfl rfl ?_ (fun K hK => ?_)
        ·
         simp only [Fact.G, Nat.reduceEqDiff, Nat.reduceLT, reduceIte, hf.size, Bool.not_true, Bool.not_false]
        go_simp
        go_at_call 21; refine (can21 w7 g q k hA7 S).mono ?_; rintro e w8 ⟨rfl, h8⟩
        rw [hcn]
        dsimp only
        refine hK.out _ _ ?_; clear hK K
        refine Fact.op_guard (g := 22) (d := 120) (b := false) rfl rfl rfl ?_ (fun K hK => ?_)
        ·
         simp only [Fact.G, Nat.reduceEqDiff, Nat.reduceLT, reduceIte, hf.size, Bool.not_true, Bool.not_false]
        go_simp
        refine hK.out _ _ ?_; clear hK K
        refine Fact.op_guard (g := 26) (d := 124) (b := true) rfl rfl rfl ?_ (fun K hK => ?_)
        ·
         simp only [Fact.G, Nat.reduceEqDiff, Nat.reduceLT, reduceIte, hf.size, Bool.not_true, Bool.not_false]
        go_simp
        refine hK.out _ _ ?_; clear hK K
        refine Fact.op_guard (g := 26) (d := 124) (b := true) rfl rfl rfl ?_ (fun K hK => ?_)
        ·
         simp only [Fact.G, Nat.reduceEqDiff, Nat.reduceLT, reduceIte, hf.size, Bool.not_true, Bool.not_false]
        go_simp
        refine hK.out _ _ ?_; clear hK K
        refine Fact.op_guard (g := 26) (d := 124) (b := true) rfl rfl rfl ?_ (fun K hK => ?_)
        ·
         simp only [Fact.G, Nat.reduceEqDiff, Nat.reduceLT, reduceIte, hf.size, Bool.not_true, Bool.not_false]
        go_simp
        go_at_call 21; refine (can21 w8 u q m (hB7.later h8) T).mono ?_; rintro e w9 ⟨rfl, h9⟩
        rw [hcT]
        dsimp only
        refine hK.out _ _ ?_; clear hK K
        refine Fact.op_guard (g := 26) (d := 124) (b := true) rfl rfl rfl ?_ (fun K hK => ?_)
        ·
         simp only [Fact.G, Nat.reduceEqDiff, Nat.reduceLT, reduceIte, hf.size, Bool.not_true, Bool.not_false]
        go_simp
        refine hK.out _ _ ?_; clear hK K
        refine Fact.op_guard (g := 22) (d := 120) (b := false) rfl rfl rfl ?_ (fun K hK => ?_)
        ·
         simp only [Fact.G, Nat.reduceEqDiff, Nat.reduceLT, reduceIte, hf.size, Bool.not_true, Bool.not_false]
        go_simp
        refine hK.out _ _ ?_; clear hK K
        refine Fact.p rfl fun K hK => ?_
        go_simp
        refine hK.out _ _ ?_; clear hK K
        refine Fact.nil ?_
        refine Fact.reQ (n := 147) (by simp only [Fact.G, hf.size]) hf.defers (fun fr1 hf1 hT => ?_)
        have hKp : _ ∧ _ ∧ _ ∧ _ ∧ _ ∧ _ ∧ _ ∧ _ ∧ _ ∧ _ ∧ _ ∧ _ ∧ _ ∧ _ ∧ _ ∧ _ ∧ _ ∧ _ ∧ _ ∧ _ ∧ _ ∧ _ ∧ _ ∧ _ ∧ _ ∧ _ ∧ _ ∧ _ ∧ _ ∧ _ ∧ _ ∧ _ ∧ _ ∧ _ ∧ _ ∧ _ ∧ _ ∧ _ ∧ _ ∧ _ ∧ _ ∧ _ ∧ _ ∧ _ ∧ _ ∧ _ ∧ _ ∧ _ ∧ _ ∧ _ ∧ _ ∧ _ ∧ _ ∧ _ ∧ _ ∧ _ ∧ _ ∧ _ ∧ _ ∧ _ ∧ _ := ⟨hT 6, hT 9, hT 10, hT 11, hT 12, hT 13, hT 14, hT 15, hT 16, hT 17, hT 18, hT 19, hT 68, hT 69, hT 70, hT 71, hT 86, hT 87, hT 88, hT 89, hT 90, hT 91, hT 92, hT 93, hT 94, hT 95, hT 96, hT 97, hT 98, hT 99, hT 100, hT 101, hT 102, hT 103, hT 104, hT 105, hT 106, hT 107, hT 108, hT 109, hT 110, hT 111, hT 112, hT 113, hT 114, hT 115, hT 116, hT 117, hT 118, hT 119, hT 120, hT 121, hT 122, hT 123, hT 124, hT 125, hT 126, hT 127, hT 128, hT 129, hT 130⟩
        simp only [Fact.G, Nat.reduceEqDiff, Nat.reduceLT, reduceIte, hf.size, s6, s9, s10, s11, s12, s13, s14, s15, s16, s17, s18, s19, s68, s69, s70, s71, s86, s87, s88, s89, s90, s91, s92, s93, s94, s95, s96, s97] at hKp
        clear hT hf s6 s9 s10 s11 s12 s13 s14 s15 s16 s17 s18 s19 s68 s69 s70 s71 s86 s87 s88 s89 s90 s91 s92 s93 s94 s95 s96 s97 b98 b99 b100 b101 b102 b103 b104 b105 b106 b107 b108 b109 b110 b111 b112 b113 b114 b115 b116 b117 b118 b119 b120 b121 b122 b123 b124 b125 b126 b127 b128 b129
        obtain ⟨s6, s9, s10, s11, s12, s13, s14, s15, s16, s17, s18, s19, s68, s69, s70, s71, s86, s87, s88, s89, s90, s91, s92, s93, s94, s95, s96, s97, s98, s99, s100, s101, s102, s103, s104, s105, s106, s107, s108, s109, s110, s111, s112, s113, s114, s115, s116, s117, s118, s119, s120, s121, s122, s123, s124, s125, s126, s127, s128, s129, s130⟩ := hKp
        have hf := hf1; clear hf1
        refine Fact.then_normal ?_
        refine hK32 _ _ ?_
        try simp only [q1, bne_self_eq_false] at s130
        refine Fact.cond_f s130 ?_
        refine wp_skip ?_
        refine Fact.then_normal ?_
        skip
        exact ⟨hf, s6, s9, s10, s11, s12, s13, s14, hb8.trans ((h8.trans (h9.mono h8.size)).mono hb8.size)⟩
     ·
      clear hf s6 s9 s10 s11 s12 s13 s14 s15 s16 s17 s18 s19 s68 s69 s70 s71 s86 s87 s88 s89 s90 s91 s92 s93 s94 s95 s96 s97
      rintro fr wr3 ⟨hf, s6, s9, s10, s11, s12, s13, s14, hb9⟩
      refine wp_seq_k (fun K33 hK33 => ?_)
      refine Fact.region ?_
      have b131 := hf.l 131 rfl
      have b132 := hf.l 132 rfl
      have b133 := hf.l 133 rfl
      refine Fact.p rfl fun K hK => ?_
      go_simp
      refine hK.out _ _ ?_; clear hK K
      refine Fact.p rfl fun K hK => ?_
      go_simp
      refine hK.out _ _ ?_; clear hK K
      refine Fact.p rfl fun K hK => ?_
      go_simp
      refine hK.out _ _ ?_; clear hK K
      refine Fact.p rfl fun K hK => ?_
      go_simp
      refine hK.out _ _ ?_; clear hK K
      refine Fact.nil ?_
      refine Fact.reQ (n := 147) (by simp only [Fact.G, hf.size]) hf.defers (fun fr1 hf1 hT => ?_)
      have hKp : _ ∧ _ ∧ _ ∧ _ ∧ _ ∧ _ ∧ _ ∧ _ ∧ _ ∧ _ ∧ _ := ⟨hT 6, hT 9, hT 10, hT 11, hT 12, hT 13, hT 14, hT 131, hT 132, hT 133, hT 134⟩
      simp only [Fact.G, Nat.reduceEqDiff, Nat.reduceLT, reduceIte, hf.size, s6, s9, s10, s11, s12, s13, s14] at hKp
      clear hT hf s6 s9 s10 s11 s12 s13 s14 b131 b132 b133
      obtain ⟨s6, s9, s10, s11, s12, s13, s14, s131, s132, s133, s134⟩ := hKp
      have hf := hf1; clear hf1
      refine Fact.then_normal ?_
      refine hK33 _ _ ?_
      refine Fact.cond_s s134 (fun hq3 => ?_) (fun hq3 => ?_)
      ·
       have hlt : i < t.size := by have h9 := of_decide_eq_true hq3; omega
       have hat3 : ∀ (j : Nat) (h : j < t.size), t[j].toNat = at_ t j := fun j h => (at_get h).symm
       have hA9 := (hAr.later hb9); have hB9 := (hBr.later hb9)
       refine wp_seq_k (fun K34 hK34 => ?_)
       refine Fact.region ?_
       have b135 := hf.l 135 rfl
       have b136 := hf.l 136 rfl
       have b137 := hf.l 137 rfl
       have b138 := hf.l 138 rfl
       have b139 := hf.l 139 rfl
       have b140 := hf.l 140 rfl
       refine Fact.p rfl fun K hK => ?_
       go_simp
       refine hK.out _ _ ?_; clear hK K
       refine Fact.p rfl fun K hK => ?_
       go_simp
       refine hK.out _ _ ?_; clear hK K
       refine Fact.p rfl fun K hK => ?_
       go_simp
       refine hK.out _ _ ?_; clear hK K
       refine Fact.p rfl fun K hK => ?_
       go_simp
       refine hK.out _ _ ?_; clear hK K
       refine Fact.p rfl fun K hK => ?_
       go_simp
       try rw [if_pos (by omega)]
       refine hK.out _ _ ?_; clear hK K
       refine Fact.p rfl fun K hK => ?_
       go_simp
       go_at_call 16; refine (step16 wr3 g q k hA9 S (at_ t i)).mono ?_; rintro e w10 ⟨rfl, h10⟩
       dsimp only
       refine hK.out _ _ ?_; clear hK K
       refine Fact.p rfl fun K hK => ?_
       go_simp
       refine hK.out _ _ ?_; clear hK K
       refine Fact.nil ?_
       refine Fact.reQ (n := 147) (by simp only [Fact.G, hf.size]) hf.defers (fun fr1 hf1 hT => ?_)
       have hKp : _ ∧ _ ∧ _ ∧ _ ∧ _ ∧ _ ∧ _ ∧ _ ∧ _ ∧ _ ∧ _ ∧ _ ∧ _ ∧ _ ∧ _ ∧ _ ∧ _ := ⟨hT 6, hT 9, hT 10, hT 11, hT 12, hT 13, hT 14, hT 131, hT 132, hT 133, hT 134, hT 135, hT 136, hT 137, hT 138, hT 139, hT 140⟩
       simp only [Fact.G, Nat.reduceEqDiff, Nat.reduceLT, reduceIte, hf.size, s6, s9, s10, s11, s13, s14, s131, s132, s133, s134] at hKp
       clear hT hf s6 s9 s10 s11 s12 s13 s14 s131 s132 s133 s134 b135 b136 b137 b138 b139 b140
       obtain ⟨s6, s9, s10, s11, s12, s13, s14, s131, s132, s133, s134, s135, s136, s137, s138, s139, s140⟩ := hKp
       have hf := hf1; clear hf1
       refine Fact.then_normal ?_
       refine hK34 _ _ ?_
       refine Fact.region ?_
       have b141 := hf.l 141 rfl
       have b142 := hf.l 142 rfl
       have b143 := hf.l 143 rfl
       have b144 := hf.l 144 rfl
       have b145 := hf.l 145 rfl
       have b146 := hf.l 146 rfl
       refine Fact.p rfl fun K hK => ?_
       go_simp
       refine hK.out _ _ ?_; clear hK K
       refine Fact.p rfl fun K hK => ?_
       go_simp
       refine hK.out _ _ ?_; clear hK K
       refine Fact.p rfl fun K hK => ?_
       go_simp
       refine hK.out _ _ ?_; clear hK K
       refine Fact.p rfl fun K hK => ?_
       go_simp
       refine hK.out _ _ ?_; clear hK K
       refine Fact.p rfl fun K hK => ?_
       go_simp
       try rw [if_pos (by omega)]
       refine hK.out _ _ ?_; clear hK K
       refine Fact.p rfl fun K hK => ?_
       go_simp
       go_at_call 16; refine (step16 w10 u q m (hB9.later h10) T (at_ t i)).mono ?_; rintro e w11 ⟨rfl, h11⟩
       dsimp only
       refine hK.out _ _ ?_; clear hK K
       refine Fact.p rfl fun K hK => ?_
       go_simp
       refine hK.out _ _ ?_; clear hK K
       refine Fact.nil ?_
       refine Fact.reQ (n := 147) (by simp only [Fact.G, hf.size]) hf.defers (fun fr1 hf1 hT => ?_)
       have hKp : _ ∧ _ ∧ _ ∧ _ ∧ _ ∧ _ ∧ _ ∧ _ ∧ _ ∧ _ ∧ _ ∧ _ ∧ _ ∧ _ ∧ _ ∧ _ ∧ _ ∧ _ ∧ _ ∧ _ ∧ _ ∧ _ ∧ _ := ⟨hT 6, hT 9, hT 10, hT 11, hT 12, hT 13, hT 14, hT 131, hT 132, hT 133, hT 134, hT 135, hT 136, hT 137, hT 138, hT 139, hT 140, hT 141, hT 142, hT 143, hT 144, hT 145, hT 146⟩
       simp only [Fact.G, Nat.reduceEqDiff, Nat.reduceLT, reduceIte, hf.size, s6, s9, s10, s11, s12, s14, s131, s132, s133, s134, s135, s136, s137, s138, s139, s140] at hKp
       clear hT hf s6 s9 s10 s11 s12 s13 s14 s131 s132 s133 s134 s135 s136 s137 s138 s139 s140 b141 b142 b143 b144 b145 b146
       obtain ⟨s6, s9, s10, s11, s12, s13, s14, s131, s132, s133, s134, s135, s136, s137, s138, s139, s140, s141, s142, s143, s144, s145, s146⟩ := hKp
       have hf := hf1; clear hf1
       refine Fact.block_normal ?_
       refine Fact.then_normal ?_
       refine hK16 _ _ ?_
       refine Fact.region ?_
       have b61 := hf.l 61 rfl
       have b62 := hf.l 62 rfl
       refine Fact.p rfl fun K hK => ?_
       go_simp
       refine hK.out _ _ ?_; clear hK K
       refine Fact.p rfl fun K hK => ?_
       go_simp
       try simp (disch := omega) only [Fact.wrap_i64, Fact.wrap_u8, Fact.wrap_u32, Fact.wrap_u64]
       refine hK.out _ _ ?_; clear hK K
       refine Fact.p rfl fun K hK => ?_
       go_simp
       refine hK.out _ _ ?_; clear hK K
       refine Fact.nil ?_
       refine Fact.reQ (n := 147) (by simp only [Fact.G, hf.size]) hf.defers (fun fr1 hf1 hT => ?_)
       have hKp : _ ∧ _ ∧ _ ∧ _ ∧ _ ∧ _ ∧ _ ∧ _ ∧ _ ∧ _ ∧ _ ∧ _ ∧ _ ∧ _ ∧ _ ∧ _ ∧ _ ∧ _ ∧ _ ∧ _ ∧ _ ∧ _ ∧ _ ∧ _ ∧ _ := ⟨hT 6, hT 9, hT 10, hT 11, hT 12, hT 13, hT 14, hT 61, hT 62, hT 131, hT 132, hT 133, hT 134, hT 135, hT 136, hT 137, hT 138, hT 139, hT 140, hT 141, hT 142, hT 143, hT 144, hT 145, hT 146⟩
       simp only [Fact.G, Nat.reduceEqDiff, Nat.reduceLT, reduceIte, hf.size, s6, s9, s10, s11, s12, s13, s131, s132, s133, s134, s135, s136, s137, s138, s139, s140, s141, s142, s143, s144, s145, s146] at hKp
       clear hT hf s6 s9 s10 s11 s12 s13 s14 s131 s132 s133 s134 s135 s136 s137 s138 s139 s140 s141 s142 s143 s144 s145 s146 b61 b62
       obtain ⟨s6, s9, s10, s11, s12, s13, s14, s61, s62, s131, s132, s133, s134, s135, s136, s137, s138, s139, s140, s141, s142, s143, s144, s145, s146⟩ := hKp
       have hf := hf1; clear hf1
       refine Fact.then_normal ?_
       exact ⟨_, by have := HK.out; omega, i + 1, _, _, rfl, by omega, fun _ => ⟨by rw [HS.out]; rfl, by rw [HT.out]; rfl⟩, hf, s6, s9, s10, s11, s12, s13, s14, hbr.trans (((hb9.trans ((h10.trans (h11.mono h10.size)).mono hb9.size))).mono hbr.size)⟩
      ·
       have hnl : ¬ i < t.size := by have h9 := of_decide_eq_false hq3; omega
       refine wp_skip ?_
       refine Fact.block_normal ?_
       refine Fact.then_normal ?_
       refine hK16 _ _ ?_
       refine Fact.region ?_
       have b61 := hf.l 61 rfl
       have b62 := hf.l 62 rfl
       refine Fact.p rfl fun K hK => ?_
       go_simp
       refine hK.out _ _ ?_; clear hK K
       refine Fact.p rfl fun K hK => ?_
       go_simp
       try simp (disch := omega) only [Fact.wrap_i64, Fact.wrap_u8, Fact.wrap_u32, Fact.wrap_u64]
       refine hK.out _ _ ?_; clear hK K
       refine Fact.p rfl fun K hK => ?_
       go_simp
       refine hK.out _ _ ?_; clear hK K
       refine Fact.nil ?_
       refine Fact.reQ (n := 147) (by simp only [Fact.G, hf.size]) hf.defers (fun fr1 hf1 hT => ?_)
       have hKp : _ ∧ _ ∧ _ ∧ _ ∧ _ ∧ _ ∧ _ ∧ _ ∧ _ ∧ _ ∧ _ ∧ _ ∧ _ := ⟨hT 6, hT 9, hT 10, hT 11, hT 12, hT 13, hT 14, hT 61, hT 62, hT 131, hT 132, hT 133, hT 134⟩
       simp only [Fact.G, Nat.reduceEqDiff, Nat.reduceLT, reduceIte, hf.size, s6, s9, s10, s11, s12, s13, s131, s132, s133, s134] at hKp
       clear hT hf s6 s9 s10 s11 s12 s13 s14 s131 s132 s133 s134 b61 b62
       obtain ⟨s6, s9, s10, s11, s12, s13, s14, s61, s62, s131, s132, s133, s134⟩ := hKp
       have hf := hf1; clear hf1
       refine Fact.then_normal ?_
       exact ⟨_, by have := HK.out; omega, i + 1, S, T, rfl, by omega, fun h => absurd h (by omega), hf, s6, s9, s10, s11, s12, s13, s14, hbr.trans (hb9.mono hbr.size)⟩
  ·
   have hne : i = t.size + 1 := by have h9 := of_decide_eq_false hq; omega
   refine wp_exit ?_
   refine Fact.then_exit ?_
   refine Fact.then_exit ?_
   refine Fact.block_exit ?_
   refine Fact.then_normal ?_
   refine hK12 _ _ ?_
   refine wp_seq_k (fun K35 hK35 => ?_)
   refine Fact.region ?_
   refine Fact.p rfl fun K hK => ?_
   go_simp
   refine hK.out _ _ ?_; clear hK K
   refine Fact.nil ?_
   refine Fact.reQ (n := 147) (by simp only [Fact.G, hf.size]) hf.defers (fun fr1 hf1 hT => ?_)
   have hKp := hT 4
   simp only [Fact.G, Nat.reduceEqDiff, Nat.reduceLT, reduceIte, hf.size] at hKp
   clear hT hf s6 s9 s10 s11 s12 s13 s14 s57 s58 s59 s60
   have s4 := hKp; clear hKp
   have hf := hf1; clear hf1
   refine Fact.then_normal ?_
   refine hK35 _ _ ?_
   refine wp_ret ?_
   exact Fact.ret1 rfl hf s4 ⟨rfl, hb7.trans (hbr.mono hb7.size)⟩
end Lv
end Go.Proofs.Ytfgfichkcckhiaa
