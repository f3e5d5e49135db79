/- Lev: LevDead. -/
import Derived.Test.YtfgfichkcckhiaaLLaws
import Derived.Test.YtfgfichkcckhiaaLBound
namespace Go.Proofs.Ytfgfichkcckhiaa
open Go.RowKit
set_option linter.unusedSimpArgs false
set_option linter.unusedVariables false
set_option linter.unnecessarySimpa false
namespace Lv
set_option maxHeartbeats 4000000 in
set_option maxRecDepth 100000 in
theorem dead4 (Q T : ByteArray) (z : Int) (hz : -128 ≤ z ∧ z ≤ 127) (more : ByteArray) (w : World) : Calls Try.prog 4 #[.agg #[.string Q, .string T, .int .i8 z], .string more] w fun e w1 => e = .returned (.bool true) ∧ Below w.heap.size w w1 := by
 refine calls_of_wp Try.func4 rfl ?_
 refine Fact.enter (n := 105) (by kernel_rfl) (fun fr hf hT => ?_)
 have s0 := hT 0 _ rfl
 have s1 := hT 1 _ rfl
 clear hT
 obtain ⟨W0, hW0⟩ : ∃ W0, w.alloc (.cells #[.string Q, .string T, .int .i8 z] 24) = W0 := ⟨_, rfl⟩
 have hb0 : Below w.heap.size w W0 := by rw [← hW0]; exact (Below.refl _ _).alloc (Nat.le_refl _) _
 have hc0 := ask_cells w Q T z W0 hW0
 obtain ⟨x0, x1, x2⟩ := hc0
 refine wp_seq_k (fun K1 hK1 => ?_)
 refine Fact.region ?_
 refine Fact.p rfl fun K hK => ?_
 go_simp
 refine hK.out _ _ ?_; clear hK K
 refine Fact.p rfl fun K hK => ?_
 go_simp
 refine hK.out _ _ ?_; clear hK K
 refine Fact.nil ?_
 refine Fact.reQ (n := 105) (by simp only [Fact.G, hf.size]) hf.defers (fun fr1 hf1 hT => ?_)
 have hKp : _ ∧ _ ∧ _ := ⟨hT 1, hT 2, hT 4⟩
 simp only [Fact.G, Nat.reduceEqDiff, Nat.reduceLT, reduceIte, hf.size, s1] at hKp
 clear hT hf s0 s1
 obtain ⟨s1, s2, s4⟩ := hKp
 have hf := hf1; clear hf1
 refine Fact.then_normal ?_
 refine hK1 _ _ ?_
 try rw [hW0]
 clear hW0
 refine wp_seq_k (fun K2 hK2 => ?_)
 refine wp_seq_k (fun K3 hK3 => ?_)
 refine Fact.region ?_
 have b16 := hf.l 16 rfl
 refine Fact.p rfl fun K hK => ?_
 go_simp
 go_at_call 20; refine (works20 W0).mono ?_; rintro e w1 ⟨rfl, h1⟩
 dsimp only
 refine hK.out _ _ ?_; clear hK K
 refine Fact.p rfl fun K hK => ?_
 go_simp
 refine hK.out _ _ ?_; clear hK K
 refine Fact.nil ?_
 refine Fact.reQ (n := 105) (by simp only [Fact.G, hf.size]) hf.defers (fun fr1 hf1 hT => ?_)
 have hKp : _ ∧ _ ∧ _ ∧ _ := ⟨hT 1, hT 2, hT 4, hT 17⟩
 simp only [Fact.G, Nat.reduceEqDiff, Nat.reduceLT, reduceIte, hf.size, s1, s2, s4] at hKp
 clear hT hf s1 s2 s4 b16
 obtain ⟨s1, s2, s4, s17⟩ := hKp
 have hf := hf1; clear hf1
 refine Fact.then_normal ?_
 refine hK3 _ _ ?_
 try simp only [Bool.not_true] at s17
 refine Fact.cond_f s17 ?_
 refine wp_skip ?_
 refine Fact.then_normal ?_
 refine hK2 _ _ ?_
 have hb1 := hb0.trans (h1.mono hb0.size)
 have y0 := cell_later h1 x0; have y1 := cell_later h1 x1; have y2 := cell_later h1 x2
 refine wp_seq_k (fun K4 hK4 => ?_)
 refine Stab.todo_begin (n := 105) (Stab.OkOps.of (by kernel_rfl)) (fun hok => ?_)
 apply Stab.t 0 _ hf.size hok.out rfl
 ·
  intro fr1 w1 hh hd hk K hK
  refine Stab.op_plain (o := _) rfl rfl ?_
  have s2 := Stab.o hh (by kernel_rfl) s2
  clear hd
  go_simp
  exact hK.out _ rfl _ _ (Below.refl _ _) rfl
 apply Stab.t 1 _ hf.size hok.out rfl
 ·
  intro fr1 w1 hh hd hk K hK
  refine Stab.op_plain (o := _) rfl rfl ?_
  have s18 := Stab.u 0 0 hd hk rfl [] (by kernel_rfl) rfl rfl rfl
  clear hd
  have u0 := cell_later hh.ext y0
  go_simp
  exact hK.out _ rfl _ _ (Below.refl _ _) rfl
 apply Stab.t 2 _ hf.size hok.out rfl
 ·
  intro fr1 w1 hh hd hk K hK
  refine Stab.op_plain (o := _) rfl rfl ?_
  have s19 := Stab.u 1 0 hd hk rfl [] (by kernel_rfl) rfl rfl rfl
  clear hd
  go_simp
  go_at_call 9; refine (few9b Q 40 w1).mono ?_; rintro e w2 ⟨rfl, hb⟩
  exact hK.out _ rfl _ _ hb rfl
 apply Stab.t 3 _ hf.size hok.out rfl
 ·
  intro fr1 w1 hh hd hk K hK
  refine Stab.op_plain (o := _) rfl rfl ?_
  have s2 := Stab.o hh (by kernel_rfl) s2
  clear hd
  go_simp
  exact hK.out _ rfl _ _ (Below.refl _ _) rfl
 apply Stab.t 4 _ hf.size hok.out rfl
 ·
  intro fr1 w1 hh hd hk K hK
  refine Stab.op_plain (o := _) rfl rfl ?_
  have s21 := Stab.u 3 0 hd hk rfl [] (by kernel_rfl) rfl rfl rfl
  clear hd
  have u0 := cell_later hh.ext y1
  go_simp
  exact hK.out _ rfl _ _ (Below.refl _ _) rfl
 apply Stab.t 5 _ hf.size hok.out rfl
 ·
  intro fr1 w1 hh hd hk K hK
  refine Stab.op_plain (o := _) rfl rfl ?_
  have s22 := Stab.u 4 0 hd hk rfl [] (by kernel_rfl) rfl rfl rfl
  clear hd
  go_simp
  go_at_call 9; refine (few9b T 40 w1).mono ?_; rintro e w2 ⟨rfl, hb⟩
  exact hK.out _ rfl _ _ hb rfl
 apply Stab.t 6 _ hf.size hok.out rfl
 ·
  intro fr1 w1 hh hd hk K hK
  refine Stab.op_plain (o := _) rfl rfl ?_
  have s2 := Stab.o hh (by kernel_rfl) s2
  clear hd
  have u0 := cell_later hh.ext y0; have u1 := cell_later hh.ext y1; have u2 := cell_later hh.ext y2
  go_simp
  exact hK.out _ rfl _ _ (Below.refl _ _) rfl
 apply Stab.t 7 _ hf.size hok.out rfl
 ·
  intro fr1 w1 hh hd hk K hK
  refine Stab.op_plain (o := _) rfl rfl ?_
  have s24 := Stab.u 6 0 hd hk rfl [] (by kernel_rfl) rfl rfl rfl
  clear hd
  go_simp
  go_at_call 12; refine (bound12 Q T z hz w1).mono ?_; rintro e w2 ⟨rfl, hb⟩
  exact hK.out _ rfl _ _ hb rfl
 refine Stab.mvN (k := 8) (j := 2) (m := 5) hf.size hok.out rfl rfl rfl (.inr rfl) rfl [] (by kernel_rfl) rfl rfl rfl ?_
 refine Stab.mvN (k := 9) (j := 5) (m := 3) hf.size hok.out rfl rfl rfl (.inr rfl) rfl [] (by kernel_rfl) rfl rfl rfl ?_
 refine Stab.mvN (k := 10) (j := 7) (m := 2) hf.size hok.out rfl rfl rfl (.inr rfl) rfl [] (by kernel_rfl) rfl rfl rfl ?_
 refine Stab.todo_facts (n := 105) (by kernel_rfl) hf.size hok.out rfl (fun fr1 w1 hh hg => ?_)
 replace s1 := Stab.o hh (by kernel_rfl) s1
 replace s4 := Stab.o hh (by kernel_rfl) s4
 have s5 := Stab.e 8 2 hg rfl rfl rfl rfl
 have s6 := Stab.e 9 1 hg rfl rfl rfl rfl
 have s7 := Stab.e 10 0 hg rfl rfl rfl rfl
 have hf1 : Fact.Fr 105 fr1 := ⟨hh.size.trans hf.size, hh.defers.trans hf.defers⟩
 have hx := hh.ext
 clear hg hh hf hok s2 s17
 have hf := hf1; clear hf1
 refine Fact.then_normal ?_
 refine hK4 _ _ ?_
 have hb2 := hb1.trans (hx.mono hb1.size)
 obtain ⟨q, hq⟩ : ∃ q, few Q 40 = q := ⟨_, rfl⟩
 obtain ⟨t, ht⟩ : ∃ t, few T 40 = t := ⟨_, rfl⟩
 obtain ⟨k, hk⟩ : ∃ k, bnd z = k := ⟨_, rfl⟩
 have hq40 : q.size ≤ 40 := by rw [← hq]; exact few_size _ _
 have ht40 : t.size ≤ 40 := by rw [← ht]; exact few_size _ _
 have hk3 : k ≤ 3 := by rw [← hk]; exact bnd_le z
 rw [hq] at s5; rw [ht] at s6; rw [hk] at s7
 clear hq ht hk y0 y1 y2 x0 x1 x2 hx h1 hb0 hb1
 refine wp_seq_k (fun K5 hK5 => ?_)
 refine Fact.region ?_
 have b26 := hf.l 26 rfl
 have b27 := hf.l 27 rfl
 have b28 := hf.l 28 rfl
 refine Fact.p rfl fun K hK => ?_
 go_simp
 refine hK.out _ _ ?_; clear hK K
 refine Fact.p rfl fun K hK => ?_
 go_simp
 refine hK.out _ _ ?_; clear hK K
 refine Fact.p rfl fun K hK => ?_
 go_simp
 go_at_call 10; refine (new10 q k (by omega) hk3 w1).mono ?_; rintro e w2 ⟨g, rfl, hA2, hg2, h2⟩
 dsimp only
 refine hK.out _ _ ?_; clear hK K
 refine Fact.p rfl fun K hK => ?_
 go_simp
 refine hK.out _ _ ?_; clear hK K
 refine Fact.nil ?_
 refine Fact.reQ (n := 105) (by simp only [Fact.G, hf.size]) hf.defers (fun fr1 hf1 hT => ?_)
 have hKp : _ ∧ _ ∧ _ ∧ _ ∧ _ ∧ _ := ⟨hT 1, hT 4, hT 5, hT 6, hT 7, hT 8⟩
 simp only [Fact.G, Nat.reduceEqDiff, Nat.reduceLT, reduceIte, hf.size, s1, s4, s5, s6, s7] at hKp
 clear hT hf s1 s4 s5 s6 s7 b26 b27 b28
 obtain ⟨s1, s4, s5, s6, s7, s8⟩ := hKp
 have hf := hf1; clear hf1
 refine Fact.then_normal ?_
 refine hK5 _ _ ?_
 refine wp_seq_k (fun K6 hK6 => ?_)
 refine wp_seq_k (fun K7 hK7 => ?_)
 refine Fact.region ?_
 have b29 := hf.l 29 rfl
 refine Fact.p rfl fun K hK => ?_
 go_simp
 refine hK.out _ _ ?_; clear hK K
 refine Fact.p rfl fun K hK => ?_
 go_simp
 refine hK.out _ _ ?_; clear hK K
 refine Fact.nil ?_
 refine Fact.reQ (n := 105) (by simp only [Fact.G, hf.size]) hf.defers (fun fr1 hf1 hT => ?_)
 have hKp : _ ∧ _ ∧ _ ∧ _ ∧ _ ∧ _ ∧ _ := ⟨hT 1, hT 4, hT 5, hT 6, hT 7, hT 8, hT 30⟩
 simp only [Fact.G, Nat.reduceEqDiff, Nat.reduceLT, reduceIte, hf.size, s1, s4, s5, s6, s7, s8] at hKp
 clear hT hf s1 s4 s5 s6 s7 s8 b29
 obtain ⟨s1, s4, s5, s6, s7, s8, s30⟩ := hKp
 have hf := hf1; clear hf1
 refine Fact.then_normal ?_
 refine hK7 _ _ ?_
 refine Fact.cond_f s30 ?_
 have hb3 := hb2.trans (h2.mono hb2.size)
 refine wp_skip ?_
 refine Fact.then_normal ?_
 refine hK6 _ _ ?_
 refine wp_seq_k (fun K8 hK8 => ?_)
 refine Fact.region ?_
 have b31 := hf.l 31 rfl
 have b32 := hf.l 32 rfl
 have b33 := hf.l 33 rfl
 have b34 := hf.l 34 rfl
 have b35 := hf.l 35 rfl
 have b36 := hf.l 36 rfl
 refine Fact.p rfl fun K hK => ?_
 go_simp
 refine hK.out _ _ ?_; clear hK K
 refine Fact.p rfl fun K hK => ?_
 go_simp
 refine hK.out _ _ ?_; clear hK K
 refine Fact.p rfl fun K hK => ?_
 go_simp
 go_at_call 13; refine (start13 w2 g q k hA2).mono ?_; rintro e w3 ⟨rfl, h3⟩
 dsimp only
 refine hK.out _ _ ?_; clear hK K
 refine Fact.p rfl fun K hK => ?_
 go_simp
 refine hK.out _ _ ?_; clear hK K
 refine Fact.p rfl fun K hK => ?_
 go_simp
 have hx4 : Below w3.heap.size w3 (w3.alloc (.cells #[.string t] 9)) := (Below.refl _ _).alloc (Nat.le_refl _) _
 refine hK.out _ _ ?_; clear hK K
 refine Fact.p rfl fun K hK => ?_
 go_simp
 go_at_call 18; refine (read18 (w3.alloc (.cells #[.string t] 9)) g q k ((hA2.later h3).later hx4) (startS q k) w3.heap.size 1 [t] (txt_new w3 [t]) (fun i s hi => by have := List.mem_of_getElem? hi; simp at this; subst this; omega) (by simp)).mono ?_; rintro e w4 ⟨rfl, h4⟩
 dsimp only
 refine hK.out _ _ ?_; clear hK K
 refine Fact.p rfl fun K hK => ?_
 go_simp
 refine hK.out _ _ ?_; clear hK K
 refine Fact.nil ?_
 refine Fact.reQ (n := 105) (by simp only [Fact.G, hf.size]) hf.defers (fun fr1 hf1 hT => ?_)
 have hKp : _ ∧ _ ∧ _ ∧ _ ∧ _ ∧ _ := ⟨hT 1, hT 4, hT 5, hT 7, hT 8, hT 9⟩
 simp only [Fact.G, Nat.reduceEqDiff, Nat.reduceLT, reduceIte, hf.size, s1, s4, s5, s7, s8] at hKp
 clear hT hf s1 s4 s5 s6 s7 s8 s30 b31 b32 b33 b34 b35 b36
 obtain ⟨s1, s4, s5, s7, s8, s9⟩ := hKp
 have hf := hf1; clear hf1
 refine Fact.then_normal ?_
 refine hK8 _ _ ?_
 have hb4 := hb3.trans (h3.mono hb3.size)
 have hb5 := hb4.trans (hx4.mono hb4.size)
 have hb6 := hb5.trans (h4.mono hb5.size)
 have hA4 := ((hA2.later h3).later hx4).later h4
 have hok0 := start_ok (q := q) hk3
 rw [readL_one] at s9
 obtain ⟨S, hS⟩ : ∃ S, readS q k (startS q k) t = S := ⟨_, rfl⟩
 have hokS : okS q k S = true := by rw [← hS]; exact readS_ok hok0 hk3
 rw [hS] at s9
 clear hS hb2 hb3 hb4 hb5 hx4 h2 h3 h4 hA2
 rcases hcan : canS q k S with _ | _
 ·
  refine wp_seq_k (fun K9 hK9 => ?_)
  refine wp_seq_k (fun K10 hK10 => ?_)
  refine Fact.region ?_
  have b37 := hf.l 37 rfl
  have b38 := hf.l 38 rfl
  have b39 := hf.l 39 rfl
  refine Fact.p rfl fun K hK => ?_
  go_simp
  refine hK.out _ _ ?_; clear hK K
  refine Fact.p rfl fun K hK => ?_
  go_simp
  refine hK.out _ _ ?_; clear hK K
  refine Fact.p rfl fun K hK => ?_
  go_simp
  go_at_call 21; refine (can21 w4 g q k hA4 S).mono ?_; rintro e w5 ⟨rfl, h5⟩
  rw [hcan]
  dsimp only
  refine hK.out _ _ ?_; clear hK K
  refine Fact.p rfl fun K hK => ?_
  go_simp
  refine hK.out _ _ ?_; clear hK K
  refine Fact.nil ?_
  refine Fact.reQ (n := 105) (by simp only [Fact.G, hf.size]) hf.defers (fun fr1 hf1 hT => ?_)
  have hKp : _ ∧ _ ∧ _ ∧ _ ∧ _ ∧ _ ∧ _ := ⟨hT 1, hT 4, hT 5, hT 7, hT 8, hT 9, hT 40⟩
  simp only [Fact.G, Nat.reduceEqDiff, Nat.reduceLT, reduceIte, hf.size, s1, s4, s5, s7, s8, s9] at hKp
  clear hT hf s1 s4 s5 s7 s8 s9 b37 b38 b39
  obtain ⟨s1, s4, s5, s7, s8, s9, s40⟩ := hKp
  have hf := hf1; clear hf1
  refine Fact.then_normal ?_
  refine hK10 _ _ ?_
  try simp only [Bool.not_false] at s40
  refine Fact.cond_t s40 ?_
  have hb7 := hb6.trans (h5.mono hb6.size)
  have hA5 := hA4.later h5
  refine wp_seq_k (fun K11 hK11 => ?_)
  refine wp_seq_k (fun K12 hK12 => ?_)
  refine Fact.region ?_
  refine Fact.p rfl fun K hK => ?_
  go_simp
  refine hK.out _ _ ?_; clear hK K
  refine Fact.nil ?_
  refine Fact.reQ (n := 105) (by simp only [Fact.G, hf.size]) hf.defers (fun fr1 hf1 hT => ?_)
  have hKp : _ ∧ _ ∧ _ ∧ _ ∧ _ ∧ _ ∧ _ := ⟨hT 1, hT 4, hT 5, hT 7, hT 8, hT 9, hT 10⟩
  simp only [Fact.G, Nat.reduceEqDiff, Nat.reduceLT, reduceIte, hf.size, s1, s4, s5, s7, s8, s9] at hKp
  clear hT hf s1 s4 s5 s7 s8 s9 s40
  obtain ⟨s1, s4, s5, s7, s8, s9, s10⟩ := hKp
  have hf := hf1; clear hf1
  refine Fact.then_normal ?_
  refine hK12 _ _ ?_
  refine wp_block ?_
  refine wp_loop_ghost (fun g1 fr wr => ∃ (i : Nat) (X : ByteArray), g1 = 40 - i ∧ i ≤ 40 ∧ i ≤ more.size ∧ okS q k X = true ∧ canS q k X = false ∧ Fact.Fr 105 fr ∧ fr.tmps[1]? = some (.string more) ∧ fr.tmps[8]? = some (.pointer (some ⟨g, 0, none⟩)) ∧ fr.tmps[9]? = some (.string X) ∧ fr.tmps[10]? = some (.int .i64 i) ∧ Below w5.heap.size w5 wr) (40) ?_ ?_
  ·
   exact ⟨0, S, rfl, Nat.zero_le _, Nat.zero_le _, hokS, hcan, hf, s1, s8, s9, s10, Below.refl _ _⟩
  ·
   clear hf s1 s4 s5 s7 s8 s9 s10
   rintro g1 fr wr ⟨i, X, hk1, hi, him, hokX, hcX, hf, s1, s8, s9, s10, hbr⟩
   have HK := Lib.hid hk1; clear hk1
   have hAr := hA5.later hbr
   have hcase : (i < more.size ∧ i < 40) ∨ (¬ i < more.size ∨ (i < more.size ∧ ¬ i < 40)) := by omega
   have e1 : IntKind.i64.wrap ((i : Int) + 1) = ((i + 1 : Nat) : Int) := by rw [Fact.wrap_i64 (by omega) (by omega)]; omega
   rcases hcase with ⟨hi1, hi2⟩ | hi1 | ⟨hi1, hi2⟩
   ·
    have q1 : decide ((i : Int) < (more.size : Int)) = true := decide_eq_true (by omega)
    have q2 : decide ((i : Int) < 40) = true := decide_eq_true (by omega)
    refine wp_seq_k (fun K13 hK13 => ?_)
    refine wp_seq_k (fun K14 hK14 => ?_)
    refine Fact.region ?_
    have b41 := hf.l 41 rfl
    have b42 := hf.l 42 rfl
    have b43 := hf.l 43 rfl
    have b44 := hf.l 44 rfl
    have b45 := hf.l 45 rfl
    have b46 := hf.l 46 rfl
    have b47 := hf.l 47 rfl
    refine Fact.p rfl fun K hK => ?_
    go_simp
    refine hK.out _ _ ?_; clear hK K
    refine Fact.p rfl fun K hK => ?_
    go_simp
    refine hK.out _ _ ?_; clear hK K
    refine Fact.p rfl fun K hK => ?_
    go_simp
    refine hK.out _ _ ?_; clear hK K
    refine Fact.p rfl fun K hK => ?_
    go_simp
    refine hK.out _ _ ?_; clear hK K
    refine Fact.p rfl fun K hK => ?_
    go_simp
    refine hK.out _ _ ?_; clear hK K
    refine Fact.op_guard (g := 4) (d := 45) (b := true) rfl rfl rfl ?_ (fun K hK => ?_)
    ·
     simp only [Fact.G, Nat.reduceEqDiff, Nat.reduceLT, reduceIte, hf.size, q1, q2]
    go_simp
    refine hK.out _ _ ?_; clear hK K
    refine Fact.op_guard (g := 4) (d := 45) (b := true) rfl rfl rfl ?_ (fun K hK => ?_)
    ·
     simp only [Fact.G, Nat.reduceEqDiff, Nat.reduceLT, reduceIte, hf.size, q1, q2]
    go_simp
    refine hK.out _ _ ?_; clear hK K
    refine Fact.p rfl fun K hK => ?_
    go_simp
    refine hK.out _ _ ?_; clear hK K
    refine Fact.nil ?_
    refine Fact.reQ (n := 105) (by simp only [Fact.G, hf.size]) hf.defers (fun fr1 hf1 hT => ?_)
    have hKp : _ ∧ _ ∧ _ ∧ _ ∧ _ ∧ _ ∧ _ ∧ _ ∧ _ ∧ _ ∧ _ ∧ _ := ⟨hT 1, hT 8, hT 9, hT 10, hT 41, hT 42, hT 43, hT 44, hT 45, hT 46, hT 47, hT 48⟩
    simp only [Fact.G, Nat.reduceEqDiff, Nat.reduceLT, reduceIte, hf.size, s1, s8, s9, s10] at hKp
    clear hT hf s1 s8 s9 s10 b41 b42 b43 b44 b45 b46 b47
    obtain ⟨s1, s8, s9, s10, s41, s42, s43, s44, s45, s46, s47, s48⟩ := hKp
    have hf := hf1; clear hf1
    refine Fact.then_normal ?_
    refine hK14 _ _ ?_
    try simp only [q1, q2] at s48
    refine Fact.cond_t s48 ?_
    have hat1 : ∀ (j : Nat) (h : j < more.size), more[j].toNat = at_ more j := fun j h => (at_get h).symm
    have hokY := step_ok (b := at_ more i) hokX hk3
    have hcY := dead_step (b := at_ more i) hokX hk3 hcX
    have hiY := dead_is hokY hcY
    refine wp_skip ?_
    refine Fact.then_normal ?_
    refine hK13 _ _ ?_
    refine wp_seq_k (fun K15 hK15 => ?_)
    refine wp_block ?_
    refine wp_seq_k (fun K16 hK16 => ?_)
    refine Fact.region ?_
    have b51 := hf.l 51 rfl
    have b52 := hf.l 52 rfl
    have b53 := hf.l 53 rfl
    have b54 := hf.l 54 rfl
    have b55 := hf.l 55 rfl
    have b56 := hf.l 56 rfl
    refine Fact.p rfl fun K hK => ?_
    go_simp
    refine hK.out _ _ ?_; clear hK K
    refine Fact.p rfl fun K hK => ?_
    go_simp
    refine hK.out _ _ ?_; clear hK K
    refine Fact.p rfl fun K hK => ?_
    go_simp
    refine hK.out _ _ ?_; clear hK K
    refine Fact.p rfl fun K hK => ?_
    go_simp
    refine hK.out _ _ ?_; clear hK K
    refine Fact.p rfl fun K hK => ?_
    go_simp
    try rw [if_pos (by omega)]
    refine hK.out _ _ ?_; clear hK K
    refine Fact.p rfl fun K hK => ?_
    go_simp
    go_at_call 16; refine (step16 wr g q k hAr X (at_ more i)).mono ?_; rintro e w6 ⟨rfl, h6⟩
    dsimp only
    refine hK.out _ _ ?_; clear hK K
    refine Fact.p rfl fun K hK => ?_
    go_simp
    refine hK.out _ _ ?_; clear hK K
    refine Fact.nil ?_
    refine Fact.reQ (n := 105) (by simp only [Fact.G, hf.size]) hf.defers (fun fr1 hf1 hT => ?_)
    have hKp : _ ∧ _ ∧ _ ∧ _ ∧ _ ∧ _ ∧ _ ∧ _ ∧ _ ∧ _ ∧ _ ∧ _ ∧ _ ∧ _ ∧ _ ∧ _ ∧ _ ∧ _ := ⟨hT 1, hT 8, hT 9, hT 10, hT 41, hT 42, hT 43, hT 44, hT 45, hT 46, hT 47, hT 48, hT 51, hT 52, hT 53, hT 54, hT 55, hT 56⟩
    simp only [Fact.G, Nat.reduceEqDiff, Nat.reduceLT, reduceIte, hf.size, s1, s8, s10, s41, s42, s43, s44, s45, s46, s47, s48] at hKp
    clear hT hf s1 s8 s9 s10 s41 s42 s43 s44 s45 s46 s47 s48 b51 b52 b53 b54 b55 b56
    obtain ⟨s1, s8, s9, s10, s41, s42, s43, s44, s45, s46, s47, s48, s51, s52, s53, s54, s55, s56⟩ := hKp
    have hf := hf1; clear hf1
    refine Fact.then_normal ?_
    refine hK16 _ _ ?_
    refine wp_seq_k (fun K17 hK17 => ?_)
    refine Fact.region ?_
    have b58 := hf.l 58 rfl
    have b59 := hf.l 59 rfl
    have b60 := hf.l 60 rfl
    have b57 := hf.l 57 rfl
    have b61 := hf.l 61 rfl
    have b62 := hf.l 62 rfl
    refine Fact.p rfl fun K hK => ?_
    go_simp
    refine hK.out _ _ ?_; clear hK K
    refine Fact.p rfl fun K hK => ?_
    go_simp
    refine hK.out _ _ ?_; clear hK K
    refine Fact.p rfl fun K hK => ?_
    go_simp
    go_at_call 22; refine (dist22 w6 g q k (hAr.later h6) (stepS q k X (at_ more i))).mono ?_; rintro e w7 ⟨rfl, h7⟩
    rw [hiY]
    dsimp only
    refine hK.out _ _ ?_; clear hK K
    refine Fact.p rfl fun K hK => ?_
    go_simp
    refine hK.out _ _ ?_; clear hK K
    refine Fact.p rfl fun K hK => ?_
    go_simp
    refine hK.out _ _ ?_; clear hK K
    refine Fact.p rfl fun K hK => ?_
    go_simp
    refine hK.out _ _ ?_; clear hK K
    refine Fact.p rfl fun K hK => ?_
    go_simp
    refine hK.out _ _ ?_; clear hK K
    refine Fact.p rfl fun K hK => ?_
    go_simp
    refine hK.out _ _ ?_; clear hK K
    refine Fact.nil ?_
    refine Fact.reQ (n := 105) (by simp only [Fact.G, hf.size]) hf.defers (fun fr1 hf1 hT => ?_)
    have hKp : _ ∧ _ ∧ _ ∧ _ ∧ _ ∧ _ ∧ _ ∧ _ ∧ _ ∧ _ ∧ _ ∧ _ ∧ _ ∧ _ ∧ _ ∧ _ ∧ _ ∧ _ ∧ _ ∧ _ ∧ _ ∧ _ ∧ _ ∧ _ ∧ _ := ⟨hT 1, hT 8, hT 9, hT 10, hT 12, hT 41, hT 42, hT 43, hT 44, hT 45, hT 46, hT 47, hT 48, hT 51, hT 52, hT 53, hT 54, hT 55, hT 56, hT 57, hT 58, hT 59, hT 60, hT 61, hT 62⟩
    simp only [Fact.G, Nat.reduceEqDiff, Nat.reduceLT, reduceIte, hf.size, s1, s8, s9, s10, s41, s42, s43, s44, s45, s46, s47, s48, s51, s52, s53, s54, s55, s56] at hKp
    clear hT hf s1 s8 s9 s10 s41 s42 s43 s44 s45 s46 s47 s48 s51 s52 s53 s54 s55 s56 b58 b59 b60 b57 b61 b62
    obtain ⟨s1, s8, s9, s10, s12, s41, s42, s43, s44, s45, s46, s47, s48, s51, s52, s53, s54, s55, s56, s57, s58, s59, s60, s61, s62⟩ := hKp
    have hf := hf1; clear hf1
    refine Fact.then_normal ?_
    refine hK17 _ _ ?_
    refine wp_seq_k (fun K18 hK18 => ?_)
    refine Fact.region ?_
    have b63 := hf.l 63 rfl
    have b64 := hf.l 64 rfl
    have b65 := hf.l 65 rfl
    have b66 := hf.l 66 rfl
    have b67 := hf.l 67 rfl
    refine Fact.p rfl fun K hK => ?_
    go_simp
    refine hK.out _ _ ?_; clear hK K
    refine Fact.p rfl fun K hK => ?_
    go_simp
    refine hK.out _ _ ?_; clear hK K
    refine Fact.op_guard (g := 1) (d := 64) (b := false) rfl rfl rfl ?_ (fun K hK => ?_)
    ·
     simp only [Fact.G, Nat.reduceEqDiff, Nat.reduceLT, reduceIte, hf.size]
    go_simp
    refine hK.out _ _ ?_; clear hK K
    refine Fact.op_guard (g := 1) (d := 64) (b := false) rfl rfl rfl ?_ (fun K hK => ?_)
    ·
     simp only [Fact.G, Nat.reduceEqDiff, Nat.reduceLT, reduceIte, hf.size]
    go_simp
    refine hK.out _ _ ?_; clear hK K
    refine Fact.op_guard (g := 1) (d := 64) (b := false) rfl rfl rfl ?_ (fun K hK => ?_)
    ·
     simp only [Fact.G, Nat.reduceEqDiff, Nat.reduceLT, reduceIte, hf.size]
    go_simp
    go_at_call 21; refine (can21 w7 g q k ((hAr.later h6).later h7) (stepS q k X (at_ more i))).mono ?_; rintro e w8 ⟨rfl, h8⟩
    rw [hcY]
    dsimp only
    refine hK.out _ _ ?_; clear hK K
    refine Fact.p rfl fun K hK => ?_
    go_simp
    refine hK.out _ _ ?_; clear hK K
    refine Fact.nil ?_
    refine Fact.reQ (n := 105) (by simp only [Fact.G, hf.size]) hf.defers (fun fr1 hf1 hT => ?_)
    have hKp : _ ∧ _ ∧ _ ∧ _ ∧ _ ∧ _ ∧ _ ∧ _ ∧ _ ∧ _ ∧ _ ∧ _ ∧ _ ∧ _ ∧ _ ∧ _ ∧ _ ∧ _ ∧ _ ∧ _ ∧ _ ∧ _ ∧ _ ∧ _ ∧ _ ∧ _ ∧ _ ∧ _ ∧ _ ∧ _ ∧ _ := ⟨hT 1, hT 8, hT 9, hT 10, hT 12, hT 41, hT 42, hT 43, hT 44, hT 45, hT 46, hT 47, hT 48, hT 51, hT 52, hT 53, hT 54, hT 55, hT 56, hT 57, hT 58, hT 59, hT 60, hT 61, hT 62, hT 63, hT 64, hT 65, hT 66, hT 67, hT 68⟩
    simp only [Fact.G, Nat.reduceEqDiff, Nat.reduceLT, reduceIte, hf.size, s1, s8, s9, s10, s12, s41, s42, s43, s44, s45, s46, s47, s48, s51, s52, s53, s54, s55, s56, s57, s58, s59, s60, s61, s62] at hKp
    clear hT hf s1 s8 s9 s10 s12 s41 s42 s43 s44 s45 s46 s47 s48 s51 s52 s53 s54 s55 s56 s57 s58 s59 s60 s61 s62 b63 b64 b65 b66 b67
    obtain ⟨s1, s8, s9, s10, s12, s41, s42, s43, s44, s45, s46, s47, s48, s51, s52, s53, s54, s55, s56, s57, s58, s59, s60, s61, s62, s63, s64, s65, s66, s67, s68⟩ := hKp
    have hf := hf1; clear hf1
    refine Fact.then_normal ?_
    refine hK18 _ _ ?_
    refine Fact.cond_f s68 ?_
    refine wp_skip ?_
    refine Fact.block_normal ?_
    refine Fact.then_normal ?_
    refine hK15 _ _ ?_
    refine Fact.region ?_
    have b49 := hf.l 49 rfl
    have b50 := hf.l 50 rfl
    refine Fact.p rfl fun K hK => ?_
    go_simp
    refine hK.out _ _ ?_; clear hK K
    refine Fact.p rfl fun K hK => ?_
    go_simp
    try simp (disch := omega) only [Fact.wrap_i64, Fact.wrap_u8, Fact.wrap_u32, Fact.wrap_u64]
    refine hK.out _ _ ?_; clear hK K
    refine Fact.p rfl fun K hK => ?_
    go_simp
    refine hK.out _ _ ?_; clear hK K
    refine Fact.nil ?_
    refine Fact.reQ (n := 105) (by simp only [Fact.G, hf.size]) hf.defers (fun fr1 hf1 hT => ?_)
    have hKp : _ ∧ _ ∧ _ ∧ _ ∧ _ ∧ _ ∧ _ ∧ _ ∧ _ ∧ _ ∧ _ ∧ _ ∧ _ ∧ _ ∧ _ ∧ _ ∧ _ ∧ _ ∧ _ ∧ _ ∧ _ ∧ _ ∧ _ ∧ _ ∧ _ ∧ _ ∧ _ ∧ _ ∧ _ ∧ _ ∧ _ ∧ _ ∧ _ := ⟨hT 1, hT 8, hT 9, hT 10, hT 12, hT 41, hT 42, hT 43, hT 44, hT 45, hT 46, hT 47, hT 48, hT 49, hT 50, hT 51, hT 52, hT 53, hT 54, hT 55, hT 56, hT 57, hT 58, hT 59, hT 60, hT 61, hT 62, hT 63, hT 64, hT 65, hT 66, hT 67, hT 68⟩
    simp only [Fact.G, Nat.reduceEqDiff, Nat.reduceLT, reduceIte, hf.size, s1, s8, s9, s12, s41, s42, s43, s44, s45, s46, s47, s48, s51, s52, s53, s54, s55, s56, s57, s58, s59, s60, s61, s62, s63, s64, s65, s66, s67, s68] at hKp
    clear hT hf s1 s8 s9 s10 s12 s41 s42 s43 s44 s45 s46 s47 s48 s51 s52 s53 s54 s55 s56 s57 s58 s59 s60 s61 s62 s63 s64 s65 s66 s67 s68 b49 b50
    obtain ⟨s1, s8, s9, s10, s12, s41, s42, s43, s44, s45, s46, s47, s48, s49, s50, s51, s52, s53, s54, s55, s56, s57, s58, s59, s60, s61, s62, s63, s64, s65, s66, s67, s68⟩ := hKp
    have hf := hf1; clear hf1
    refine Fact.then_normal ?_
    exact ⟨_, by have := HK.out; omega, i + 1, _, rfl, by omega, by omega, hokY, hcY, hf, s1, s8, s9, s10, hbr.trans (((h6.trans (h7.mono h6.size)).trans (h8.mono (by have := h6.size; have := h7.size; omega))).mono hbr.size)⟩
   ·
    have q1 : decide ((i : Int) < (more.size : Int)) = false := decide_eq_false (by omega)
    refine wp_seq_k (fun K19 hK19 => ?_)
    refine wp_seq_k (fun K20 hK20 => ?_)
    refine Fact.region ?_
    have b41 := hf.l 41 rfl
    have b42 := hf.l 42 rfl
    have b43 := hf.l 43 rfl
    have b44 := hf.l 44 rfl
    have b45 := hf.l 45 rfl
    have b46 := hf.l 46 rfl
    have b47 := hf.l 47 rfl
    refine Fact.p rfl fun K hK => ?_
    go_simp
    refine hK.out _ _ ?_; clear hK K
    refine Fact.p rfl fun K hK => ?_
    go_simp
    refine hK.out _ _ ?_; clear hK K
    refine Fact.p rfl fun K hK => ?_
    go_simp
    refine hK.out _ _ ?_; clear hK K
    refine Fact.p rfl fun K hK => ?_
    go_simp
    refine hK.out _ _ ?_; clear hK K
    refine Fact.p rfl fun K hK => ?_
    go_simp
    refine hK.out _ _ ?_; clear hK K
    refine Fact.op_skip (g := 4) (d := 45) (b := true) rfl rfl rfl ?_ ?_
    ·
     simp only [Fact.G, Nat.reduceEqDiff, Nat.reduceLT, reduceIte, hf.size, Bool.not_true, Bool.not_false, q1, Bool.not_true]
    refine Fact.op_skip (g := 4) (d := 45) (b := true) rfl rfl rfl ?_ ?_
    ·
     simp only [Fact.G, Nat.reduceEqDiff, Nat.reduceLT, reduceIte, hf.size, Bool.not_true, Bool.not_false, q1, Bool.not_true]
    refine Fact.p rfl fun K hK => ?_
    go_simp
    refine hK.out _ _ ?_; clear hK K
    refine Fact.nil ?_
    refine Fact.reQ (n := 105) (by simp only [Fact.G, hf.size]) hf.defers (fun fr1 hf1 hT => ?_)
    have hKp : _ ∧ _ ∧ _ ∧ _ ∧ _ ∧ _ ∧ _ ∧ _ ∧ _ ∧ _ ∧ _ ∧ _ := ⟨hT 1, hT 8, hT 9, hT 10, hT 41, hT 42, hT 43, hT 44, hT 45, hT 46, hT 47, hT 48⟩
    simp only [Fact.G, Nat.reduceEqDiff, Nat.reduceLT, reduceIte, hf.size, s1, s8, s9, s10] at hKp
    clear hT hf s1 s8 s9 s10 b41 b42 b43 b44 b45 b46 b47
    obtain ⟨s1, s8, s9, s10, s41, s42, s43, s44, s45, s46, s47, s48⟩ := hKp
    have hf := hf1; clear hf1
    refine Fact.then_normal ?_
    refine hK20 _ _ ?_
    try simp only [q1] at s48
    refine Fact.cond_f s48 ?_
    refine wp_exit ?_
    refine Fact.then_exit ?_
    refine Fact.then_exit ?_
    refine Fact.block_exit ?_
    refine Fact.then_normal ?_
    refine hK11 _ _ ?_
    refine wp_seq_k (fun K21 hK21 => ?_)
    refine Fact.region ?_
    refine Fact.p rfl fun K hK => ?_
    go_simp
    refine hK.out _ _ ?_; clear hK K
    refine Fact.nil ?_
    refine Fact.reQ (n := 105) (by simp only [Fact.G, hf.size]) hf.defers (fun fr1 hf1 hT => ?_)
    have hKp : _ ∧ _ ∧ _ := ⟨hT 4, hT 8, hT 9⟩
    simp only [Fact.G, Nat.reduceEqDiff, Nat.reduceLT, reduceIte, hf.size, s8, s9] at hKp
    clear hT hf s1 s8 s9 s10 s41 s42 s43 s44 s45 s46 s47 s48
    obtain ⟨s4, s8, s9⟩ := hKp
    have hf := hf1; clear hf1
    refine Fact.then_normal ?_
    refine hK21 _ _ ?_
    refine wp_ret ?_
    refine Fact.then_ret ?_
    exact Fact.ret1 rfl hf s4 ⟨rfl, hb7.trans (hbr.mono hb7.size)⟩
   ·
    have q1 : decide ((i : Int) < (more.size : Int)) = true := decide_eq_true (by omega)
    have q2 : decide ((i : Int) < 40) = false := decide_eq_false (by omega)
    refine wp_seq_k (fun K22 hK22 => ?_)
    refine wp_seq_k (fun K23 hK23 => ?_)
    refine Fact.region ?_
    have b41 := hf.l 41 rfl
    have b42 := hf.l 42 rfl
    have b43 := hf.l 43 rfl
    have b44 := hf.l 44 rfl
    have b45 := hf.l 45 rfl
    have b46 := hf.l 46 rfl
    have b47 := hf.l 47 rfl
    refine Fact.p rfl fun K hK => ?_
    go_simp
    refine hK.out _ _ ?_; clear hK K
    refine Fact.p rfl fun K hK => ?_
    go_simp
    refine hK.out _ _ ?_; clear hK K
    refine Fact.p rfl fun K hK => ?_
    go_simp
    refine hK.out _ _ ?_; clear hK K
    refine Fact.p rfl fun K hK => ?_
    go_simp
    refine hK.out _ _ ?_; clear hK K
    refine Fact.p rfl fun K hK => ?_
    go_simp
    refine hK.out _ _ ?_; clear hK K
    refine Fact.op_guard (g := 4) (d := 45) (b := true) rfl rfl rfl ?_ (fun K hK => ?_)
    ·
     simp only [Fact.G, Nat.reduceEqDiff, Nat.reduceLT, reduceIte, hf.size, q1]
    go_simp
    refine hK.out _ _ ?_; clear hK K
    refine Fact.op_guard (g := 4) (d := 45) (b := true) rfl rfl rfl ?_ (fun K hK => ?_)
    ·
     simp only [Fact.G, Nat.reduceEqDiff, Nat.reduceLT, reduceIte, hf.size, q1]
    go_simp
    refine hK.out _ _ ?_; clear hK K
    refine Fact.p rfl fun K hK => ?_
    go_simp
    refine hK.out _ _ ?_; clear hK K
    refine Fact.nil ?_
    refine Fact.reQ (n := 105) (by simp only [Fact.G, hf.size]) hf.defers (fun fr1 hf1 hT => ?_)
    have hKp : _ ∧ _ ∧ _ ∧ _ ∧ _ ∧ _ ∧ _ ∧ _ ∧ _ ∧ _ ∧ _ ∧ _ := ⟨hT 1, hT 8, hT 9, hT 10, hT 41, hT 42, hT 43, hT 44, hT 45, hT 46, hT 47, hT 48⟩
    simp only [Fact.G, Nat.reduceEqDiff, Nat.reduceLT, reduceIte, hf.size, s1, s8, s9, s10] at hKp
    clear hT hf s1 s8 s9 s10 b41 b42 b43 b44 b45 b46 b47
    obtain ⟨s1, s8, s9, s10, s41, s42, s43, s44, s45, s46, s47, s48⟩ := hKp
    have hf := hf1; clear hf1
    refine Fact.then_normal ?_
    refine hK23 _ _ ?_
    try simp only [q1] at s48
    refine Fact.cond_f s48 ?_
    refine wp_exit ?_
    refine Fact.then_exit ?_
    refine Fact.then_exit ?_
    refine Fact.block_exit ?_
    refine Fact.then_normal ?_
    refine hK11 _ _ ?_
    refine wp_seq_k (fun K24 hK24 => ?_)
    refine Fact.region ?_
    refine Fact.p rfl fun K hK => ?_
    go_simp
    refine hK.out _ _ ?_; clear hK K
    refine Fact.nil ?_
    refine Fact.reQ (n := 105) (by simp only [Fact.G, hf.size]) hf.defers (fun fr1 hf1 hT => ?_)
    have hKp : _ ∧ _ ∧ _ := ⟨hT 4, hT 8, hT 9⟩
    simp only [Fact.G, Nat.reduceEqDiff, Nat.reduceLT, reduceIte, hf.size, s8, s9] at hKp
    clear hT hf s1 s8 s9 s10 s41 s42 s43 s44 s45 s46 s47 s48
    obtain ⟨s4, s8, s9⟩ := hKp
    have hf := hf1; clear hf1
    refine Fact.then_normal ?_
    refine hK24 _ _ ?_
    refine wp_ret ?_
    refine Fact.then_ret ?_
    exact Fact.ret1 rfl hf s4 ⟨rfl, hb7.trans (hbr.mono hb7.size)⟩
 ·
  refine wp_seq_k (fun K25 hK25 => ?_)
  refine wp_seq_k (fun K26 hK26 => ?_)
  refine Fact.region ?_
  have b37 := hf.l 37 rfl
  have b38 := hf.l 38 rfl
  have b39 := hf.l 39 rfl
  refine Fact.p rfl fun K hK => ?_
  go_simp
  refine hK.out _ _ ?_; clear hK K
  refine Fact.p rfl fun K hK => ?_
  go_simp
  refine hK.out _ _ ?_; clear hK K
  refine Fact.p rfl fun K hK => ?_
  go_simp
  go_at_call 21; refine (can21 w4 g q k hA4 S).mono ?_; rintro e w5 ⟨rfl, h5⟩
  rw [hcan]
  dsimp only
  refine hK.out _ _ ?_; clear hK K
  refine Fact.p rfl fun K hK => ?_
  go_simp
  refine hK.out _ _ ?_; clear hK K
  refine Fact.nil ?_
  refine Fact.reQ (n := 105) (by simp only [Fact.G, hf.size]) hf.defers (fun fr1 hf1 hT => ?_)
  have hKp : _ ∧ _ ∧ _ ∧ _ ∧ _ ∧ _ ∧ _ := ⟨hT 1, hT 4, hT 5, hT 7, hT 8, hT 9, hT 40⟩
  simp only [Fact.G, Nat.reduceEqDiff, Nat.reduceLT, reduceIte, hf.size, s1, s4, s5, s7, s8, s9] at hKp
  clear hT hf s1 s4 s5 s7 s8 s9 b37 b38 b39
  obtain ⟨s1, s4, s5, s7, s8, s9, s40⟩ := hKp
  have hf := hf1; clear hf1
  refine Fact.then_normal ?_
  refine hK26 _ _ ?_
  try simp only [Bool.not_true] at s40
  refine Fact.cond_f s40 ?_
  have hb7 := hb6.trans (h5.mono hb6.size)
  have hA5 := hA4.later h5
  refine wp_skip ?_
  refine Fact.then_normal ?_
  refine hK25 _ _ ?_
  refine wp_seq_k (fun K27 hK27 => ?_)
  refine wp_seq_k (fun K28 hK28 => ?_)
  refine Fact.region ?_
  refine Fact.p rfl fun K hK => ?_
  go_simp
  refine hK.out _ _ ?_; clear hK K
  refine Fact.nil ?_
  refine Fact.reQ (n := 105) (by simp only [Fact.G, hf.size]) hf.defers (fun fr1 hf1 hT => ?_)
  have hKp : _ ∧ _ ∧ _ ∧ _ ∧ _ ∧ _ := ⟨hT 4, hT 5, hT 7, hT 8, hT 9, hT 13⟩
  simp only [Fact.G, Nat.reduceEqDiff, Nat.reduceLT, reduceIte, hf.size, s4, s5, s7, s8, s9] at hKp
  clear hT hf s1 s4 s5 s7 s8 s9 s40
  obtain ⟨s4, s5, s7, s8, s9, s13⟩ := hKp
  have hf := hf1; clear hf1
  refine Fact.then_normal ?_
  refine hK28 _ _ ?_
  refine wp_block ?_
  refine wp_loop_ghost (fun g1 fr wr => ∃ (n : Nat), g1 = q.size + 1 - n ∧ n ≤ q.size + 1 ∧ Fact.Fr 105 fr ∧ fr.tmps[5]? = some (.string q) ∧ fr.tmps[7]? = some (.int .i64 k) ∧ fr.tmps[8]? = some (.pointer (some ⟨g, 0, none⟩)) ∧ fr.tmps[9]? = some (.string S) ∧ fr.tmps[13]? = some (.int .i64 n) ∧ Below w5.heap.size w5 wr) (q.size + 1) ?_ ?_
  ·
   exact ⟨0, rfl, Nat.zero_le _, hf, s5, s7, s8, s9, s13, Below.refl _ _⟩
  ·
   clear hf s4 s5 s7 s8 s9 s13
   rintro g1 fr wr ⟨n, hk1, hn, hf, s5, s7, s8, s9, s13, hbr⟩
   have HK := Lib.hid hk1; clear hk1
   have hAr := hA5.later hbr
   refine wp_seq_k (fun K29 hK29 => ?_)
   refine wp_seq_k (fun K30 hK30 => ?_)
   refine Fact.region ?_
   have b69 := hf.l 69 rfl
   have b70 := hf.l 70 rfl
   have b71 := hf.l 71 rfl
   refine Fact.p rfl fun K hK => ?_
   go_simp
   refine hK.out _ _ ?_; clear hK K
   refine Fact.p rfl fun K hK => ?_
   go_simp
   refine hK.out _ _ ?_; clear hK K
   refine Fact.p rfl fun K hK => ?_
   go_simp
   refine hK.out _ _ ?_; clear hK K
   refine Fact.p rfl fun K hK => ?_
   go_simp
   refine hK.out _ _ ?_; clear hK K
   refine Fact.nil ?_
   refine Fact.reQ (n := 105) (by simp only [Fact.G, hf.size]) hf.defers (fun fr1 hf1 hT => ?_)
   have hKp : _ ∧ _ ∧ _ ∧ _ ∧ _ ∧ _ ∧ _ ∧ _ ∧ _ := ⟨hT 5, hT 7, hT 8, hT 9, hT 13, hT 69, hT 70, hT 71, hT 72⟩
   simp only [Fact.G, Nat.reduceEqDiff, Nat.reduceLT, reduceIte, hf.size, s5, s7, s8, s9, s13] at hKp
   clear hT hf s5 s7 s8 s9 s13 b69 b70 b71
   obtain ⟨s5, s7, s8, s9, s13, s69, s70, s71, s72⟩ := hKp
   have hf := hf1; clear hf1
   refine Fact.then_normal ?_
   refine hK30 _ _ ?_
   refine Fact.cond_s s72 (fun hq => ?_) (fun hq => ?_)
   ·
    have hnq : n ≤ q.size := by have h9 := of_decide_eq_true hq; omega
    have hsz := okS_size hokS
    have hat1 : ∀ (j : Nat) (h : j < S.size), S[j].toNat = at_ S j := fun j h => (at_get h).symm
    have hsl := at_lt S n
    have e1 : IntKind.i64.wrap ((n : Int) + 1) = ((n + 1 : Nat) : Int) := by rw [Fact.wrap_i64 (by omega) (by omega)]; omega
    refine wp_skip ?_
    refine Fact.then_normal ?_
    refine hK29 _ _ ?_
    refine wp_seq_k (fun K31 hK31 => ?_)
    refine wp_block ?_
    refine wp_seq_k (fun K32 hK32 => ?_)
    refine Fact.region ?_
    have b76 := hf.l 76 rfl
    have b77 := hf.l 77 rfl
    have b78 := hf.l 78 rfl
    have b79 := hf.l 79 rfl
    have b80 := hf.l 80 rfl
    have b81 := hf.l 81 rfl
    have b82 := hf.l 82 rfl
    have b83 := hf.l 83 rfl
    have b84 := hf.l 84 rfl
    have b75 := hf.l 75 rfl
    have b85 := hf.l 85 rfl
    have b86 := hf.l 86 rfl
    refine Fact.p rfl fun K hK => ?_
    go_simp
    refine hK.out _ _ ?_; clear hK K
    refine Fact.p rfl fun K hK => ?_
    go_simp
    refine hK.out _ _ ?_; clear hK K
    refine Fact.p rfl fun K hK => ?_
    go_simp
    refine hK.out _ _ ?_; clear hK K
    refine Fact.p rfl fun K hK => ?_
    go_simp
    refine hK.out _ _ ?_; clear hK K
    refine Fact.p rfl fun K hK => ?_
    go_simp
    refine hK.out _ _ ?_; clear hK K
    refine Fact.p rfl fun K hK => ?_
    go_simp
    try rw [if_pos (by omega)]
    refine hK.out _ _ ?_; clear hK K
    refine Fact.p rfl fun K hK => ?_
    go_simp
    have hx6 : Below wr.heap.size wr (wr.alloc (.cells #[.string (q.extract n q.size)] 9)) := (Below.refl _ _).alloc (Nat.le_refl _) _
    refine hK.out _ _ ?_; clear hK K
    refine Fact.p rfl fun K hK => ?_
    go_simp
    go_at_call 18; refine (read18 (wr.alloc (.cells #[.string (q.extract n q.size)] 9)) g q k (hAr.later hx6) S wr.heap.size 1 [q.extract n q.size] (txt_new wr [q.extract n q.size]) (fun i s hi => by have := List.mem_of_getElem? hi; simp at this; subst this; rw [ByteArray.size_extract]; omega) (by simp)).mono ?_; rintro e w6 ⟨rfl, h6⟩
    rw [readL_one]
    dsimp only
    refine hK.out _ _ ?_; clear hK K
    refine Fact.p rfl fun K hK => ?_
    go_simp
    go_at_call 22; refine (dist22 w6 g q k ((hAr.later hx6).later h6) (readS q k S (q.extract n q.size))).mono ?_; rintro e w7 ⟨rfl, h7⟩
    dsimp only
    refine hK.out _ _ ?_; clear hK K
    refine Fact.p rfl fun K hK => ?_
    go_simp
    refine hK.out _ _ ?_; clear hK K
    refine Fact.p rfl fun K hK => ?_
    go_simp
    refine hK.out _ _ ?_; clear hK K
    refine Fact.p rfl fun K hK => ?_
    go_simp
    refine hK.out _ _ ?_; clear hK K
    refine Fact.p rfl fun K hK => ?_
    go_simp
    refine hK.out _ _ ?_; clear hK K
    refine Fact.p rfl fun K hK => ?_
    go_simp
    refine hK.out _ _ ?_; clear hK K
    refine Fact.nil ?_
    refine Fact.reQ (n := 105) (by simp only [Fact.G, hf.size]) hf.defers (fun fr1 hf1 hT => ?_)
    have hKp : _ ∧ _ ∧ _ ∧ _ ∧ _ ∧ _ ∧ _ ∧ _ ∧ _ ∧ _ ∧ _ ∧ _ ∧ _ ∧ _ ∧ _ ∧ _ ∧ _ ∧ _ ∧ _ ∧ _ ∧ _ ∧ _ ∧ _ := ⟨hT 5, hT 7, hT 8, hT 9, hT 13, hT 14, hT 15, hT 69, hT 70, hT 71, hT 72, hT 75, hT 76, hT 77, hT 78, hT 79, hT 80, hT 81, hT 82, hT 83, hT 84, hT 85, hT 86⟩
    simp only [Fact.G, Nat.reduceEqDiff, Nat.reduceLT, reduceIte, hf.size, s5, s7, s8, s9, s13, s69, s70, s71, s72] at hKp
    clear hT hf s5 s7 s8 s9 s13 s69 s70 s71 s72 b76 b77 b78 b79 b80 b81 b82 b83 b84 b75 b85 b86
    obtain ⟨s5, s7, s8, s9, s13, s14, s15, s69, s70, s71, s72, s75, s76, s77, s78, s79, s80, s81, s82, s83, s84, s85, s86⟩ := hKp
    have hf := hf1; clear hf1
    refine Fact.then_normal ?_
    refine hK32 _ _ ?_
    have hb8 := ((hx6.trans (h6.mono hx6.size)).trans (h7.mono (by have := h6.size; have := hx6.size; omega)))
    have e2 : IntKind.i64.wrap ((at_ S n : Nat) : Int) = ((at_ S n : Nat) : Int) := Fact.wrap_i64 (by omega) (by omega)
    by_cases hle : at_ S n ≤ k
    ·
     obtain ⟨hi1, hi2⟩ := way_is hokS hk3 hnq hle
     rw [hi1] at s15
     have q1 : decide (at_ S n ≤ k) = true := decide_eq_true hle
     have q2 : decide (at_ S n < distS q k (readS q k S (q.extract n q.size))) = false := decide_eq_false (by omega)
     refine wp_seq_k (fun K33 hK33 => ?_)
     refine Fact.region ?_
     have b87 := hf.l 87 rfl
     have b88 := hf.l 88 rfl
     have b89 := hf.l 89 rfl
     have b90 := hf.l 90 rfl
     have b91 := hf.l 91 rfl
     have b92 := hf.l 92 rfl
     have b93 := hf.l 93 rfl
     have b94 := hf.l 94 rfl
     have b95 := hf.l 95 rfl
     have b96 := hf.l 96 rfl
     have b97 := hf.l 97 rfl
     have b98 := hf.l 98 rfl
     have b99 := hf.l 99 rfl
     have b100 := hf.l 100 rfl
     have b101 := hf.l 101 rfl
     have b102 := hf.l 102 rfl
     have b103 := hf.l 103 rfl
     refine Fact.p rfl fun K hK => ?_
     go_simp
     refine hK.out _ _ ?_; clear hK K
     refine Fact.p rfl fun K hK => ?_
     go_simp
     refine hK.out _ _ ?_; clear hK K
     refine Fact.p rfl fun K hK => ?_
     go_simp
     try rw [if_pos (by omega)]
     refine hK.out _ _ ?_; clear hK K
     refine Fact.p rfl fun K hK => ?_
     go_simp
     refine hK.out _ _ ?_; clear hK K
     refine Fact.p rfl fun K hK => ?_
     go_simp
     refine hK.out _ _ ?_; clear hK K
     refine Fact.p rfl fun K hK => ?_
     go_simp
     refine hK.out _ _ ?_; clear hK K
     refine Fact.p rfl fun K hK => ?_
     go_simp
     refine hK.out _ _ ?_; clear hK K
     refine Fact.op_guard (g := 6) (d := 93) (b := true) rfl rfl rfl ?_ (fun K hK => ?_)
     ·
      simp only [Fact.G, Nat.reduceEqDiff, Nat.reduceLT, reduceIte, hf.size, q1, Bool.not_true]
     go_simp
     refine hK.out _ _ ?_; clear hK K
     refine Fact.op_guard (g := 6) (d := 93) (b := true) rfl rfl rfl ?_ (fun K hK => ?_)
     ·
      simp only [Fact.G, Nat.reduceEqDiff, Nat.reduceLT, reduceIte, hf.size, q1, Bool.not_true]
     go_simp
     refine hK.out _ _ ?_; clear hK K
     refine Fact.op_guard (g := 6) (d := 93) (b := true) rfl rfl rfl ?_ (fun K hK => ?_)
     ·
      simp only [Fact.G, Nat.reduceEqDiff, Nat.reduceLT, reduceIte, hf.size, q1, Bool.not_true]
     go_simp
     refine hK.out _ _ ?_; clear hK K
     refine Fact.op_guard (g := 9) (d := 96) (b := false) rfl rfl rfl ?_ (fun K hK => ?_)
     ·
      simp only [Fact.G, Nat.reduceEqDiff, Nat.reduceLT, reduceIte, hf.size, q1, Bool.not_true]
     go_simp
     refine hK.out _ _ ?_; clear hK K
     refine Fact.op_guard (g := 9) (d := 96) (b := false) rfl rfl rfl ?_ (fun K hK => ?_)
     ·
      simp only [Fact.G, Nat.reduceEqDiff, Nat.reduceLT, reduceIte, hf.size, q1, Bool.not_true]
     go_simp
     refine hK.out _ _ ?_; clear hK K
     refine Fact.op_guard (g := 9) (d := 96) (b := false) rfl rfl rfl ?_ (fun K hK => ?_)
     ·
      simp only [Fact.G, Nat.reduceEqDiff, Nat.reduceLT, reduceIte, hf.size, q1, Bool.not_true]
     go_simp
     refine hK.out _ _ ?_; clear hK K
     refine Fact.op_guard (g := 9) (d := 96) (b := false) rfl rfl rfl ?_ (fun K hK => ?_)
     ·
      simp only [Fact.G, Nat.reduceEqDiff, Nat.reduceLT, reduceIte, hf.size, q1, Bool.not_true]
     go_simp
     try rw [if_pos (by omega)]
     refine hK.out _ _ ?_; clear hK K
     refine Fact.op_guard (g := 9) (d := 96) (b := false) rfl rfl rfl ?_ (fun K hK => ?_)
     ·
      simp only [Fact.G, Nat.reduceEqDiff, Nat.reduceLT, reduceIte, hf.size, q1, Bool.not_true]
     go_simp
     refine hK.out _ _ ?_; clear hK K
     refine Fact.op_guard (g := 9) (d := 96) (b := false) rfl rfl rfl ?_ (fun K hK => ?_)
     ·
      simp only [Fact.G, Nat.reduceEqDiff, Nat.reduceLT, reduceIte, hf.size, q1, Bool.not_true]
     go_simp
     refine hK.out _ _ ?_; clear hK K
     refine Fact.op_guard (g := 6) (d := 93) (b := true) rfl rfl rfl ?_ (fun K hK => ?_)
     ·
      simp only [Fact.G, Nat.reduceEqDiff, Nat.reduceLT, reduceIte, hf.size, q1, Bool.not_true]
     go_simp
     refine hK.out _ _ ?_; clear hK K
     refine Fact.p rfl fun K hK => ?_
     go_simp
     refine hK.out _ _ ?_; clear hK K
     refine Fact.nil ?_
     refine Fact.reQ (n := 105) (by simp only [Fact.G, hf.size]) hf.defers (fun fr1 hf1 hT => ?_)
     have hKp : _ ∧ _ ∧ _ ∧ _ ∧ _ ∧ _ ∧ _ ∧ _ ∧ _ ∧ _ ∧ _ ∧ _ ∧ _ ∧ _ ∧ _ ∧ _ ∧ _ ∧ _ ∧ _ ∧ _ ∧ _ ∧ _ ∧ _ ∧ _ ∧ _ ∧ _ ∧ _ ∧ _ ∧ _ ∧ _ ∧ _ ∧ _ ∧ _ ∧ _ ∧ _ ∧ _ ∧ _ ∧ _ ∧ _ ∧ _ ∧ _ := ⟨hT 5, hT 7, hT 8, hT 9, hT 13, hT 14, hT 15, hT 69, hT 70, hT 71, hT 72, hT 75, hT 76, hT 77, hT 78, hT 79, hT 80, hT 81, hT 82, hT 83, hT 84, hT 85, hT 86, hT 87, hT 88, hT 89, hT 90, hT 91, hT 92, hT 93, hT 94, hT 95, hT 96, hT 97, hT 98, hT 99, hT 100, hT 101, hT 102, hT 103, hT 104⟩
     simp only [Fact.G, Nat.reduceEqDiff, Nat.reduceLT, reduceIte, hf.size, s5, s7, s8, s9, s13, s14, s15, s69, s70, s71, s72, s75, s76, s77, s78, s79, s80, s81, s82, s83, s84, s85, s86] at hKp
     clear hT hf s5 s7 s8 s9 s13 s14 s15 s69 s70 s71 s72 s75 s76 s77 s78 s79 s80 s81 s82 s83 s84 s85 s86 b87 b88 b89 b90 b91 b92 b93 b94 b95 b96 b97 b98 b99 b100 b101 b102 b103
     obtain ⟨s5, s7, s8, s9, s13, s14, s15, s69, s70, s71, s72, s75, s76, s77, s78, s79, s80, s81, s82, s83, s84, s85, s86, s87, s88, s89, s90, s91, s92, s93, s94, s95, s96, s97, s98, s99, s100, s101, s102, s103, s104⟩ := hKp
     have hf := hf1; clear hf1
     refine Fact.then_normal ?_
     refine hK33 _ _ ?_
     try simp only [q1, q2] at s104
     refine Fact.cond_f s104 ?_
     refine wp_skip ?_
     refine Fact.block_normal ?_
     refine Fact.then_normal ?_
     refine hK31 _ _ ?_
     refine Fact.region ?_
     have b73 := hf.l 73 rfl
     have b74 := hf.l 74 rfl
     refine Fact.p rfl fun K hK => ?_
     go_simp
     refine hK.out _ _ ?_; clear hK K
     refine Fact.p rfl fun K hK => ?_
     go_simp
     try simp (disch := omega) only [Fact.wrap_i64, Fact.wrap_u8, Fact.wrap_u32, Fact.wrap_u64]
     refine hK.out _ _ ?_; clear hK K
     refine Fact.p rfl fun K hK => ?_
     go_simp
     refine hK.out _ _ ?_; clear hK K
     refine Fact.nil ?_
     refine Fact.reQ (n := 105) (by simp only [Fact.G, hf.size]) hf.defers (fun fr1 hf1 hT => ?_)
     have hKp : _ ∧ _ ∧ _ ∧ _ ∧ _ ∧ _ ∧ _ ∧ _ ∧ _ ∧ _ ∧ _ ∧ _ ∧ _ ∧ _ ∧ _ ∧ _ ∧ _ ∧ _ ∧ _ ∧ _ ∧ _ ∧ _ ∧ _ ∧ _ ∧ _ ∧ _ ∧ _ ∧ _ ∧ _ ∧ _ ∧ _ ∧ _ ∧ _ ∧ _ ∧ _ ∧ _ ∧ _ ∧ _ ∧ _ ∧ _ ∧ _ ∧ _ ∧ _ := ⟨hT 5, hT 7, hT 8, hT 9, hT 13, hT 14, hT 15, hT 69, hT 70, hT 71, hT 72, hT 73, hT 74, hT 75, hT 76, hT 77, hT 78, hT 79, hT 80, hT 81, hT 82, hT 83, hT 84, hT 85, hT 86, hT 87, hT 88, hT 89, hT 90, hT 91, hT 92, hT 93, hT 94, hT 95, hT 96, hT 97, hT 98, hT 99, hT 100, hT 101, hT 102, hT 103, hT 104⟩
     simp only [Fact.G, Nat.reduceEqDiff, Nat.reduceLT, reduceIte, hf.size, s5, s7, s8, s9, s14, s15, s69, s70, s71, s72, s75, s76, s77, s78, s79, s80, s81, s82, s83, s84, s85, s86, s87, s88, s89, s90, s91, s92, s93, s94, s95, s96, s97, s98, s99, s100, s101, s102, s103, s104] at hKp
     clear hT hf s5 s7 s8 s9 s13 s14 s15 s69 s70 s71 s72 s75 s76 s77 s78 s79 s80 s81 s82 s83 s84 s85 s86 s87 s88 s89 s90 s91 s92 s93 s94 s95 s96 s97 s98 s99 s100 s101 s102 s103 s104 b73 b74
     obtain ⟨s5, s7, s8, s9, s13, s14, s15, s69, s70, s71, s72, s73, s74, s75, s76, s77, s78, s79, s80, s81, s82, s83, s84, s85, s86, s87, s88, s89, s90, s91, s92, s93, s94, s95, s96, s97, s98, s99, s100, s101, s102, s103, s104⟩ := hKp
     have hf := hf1; clear hf1
     refine Fact.then_normal ?_
     exact ⟨_, by have := HK.out; omega, n + 1, rfl, by omega, hf, s5, s7, s8, s9, s13, hbr.trans (hb8.mono hbr.size)⟩
    ·
     have q1 : decide (at_ S n ≤ k) = false := decide_eq_false hle
     refine wp_seq_k (fun K34 hK34 => ?_)
     refine Fact.region ?_
     have b87 := hf.l 87 rfl
     have b88 := hf.l 88 rfl
     have b89 := hf.l 89 rfl
     have b90 := hf.l 90 rfl
     have b91 := hf.l 91 rfl
     have b92 := hf.l 92 rfl
     have b93 := hf.l 93 rfl
     have b94 := hf.l 94 rfl
     have b95 := hf.l 95 rfl
     have b96 := hf.l 96 rfl
     have b97 := hf.l 97 rfl
     have b98 := hf.l 98 rfl
     have b99 := hf.l 99 rfl
     have b100 := hf.l 100 rfl
     have b101 := hf.l 101 rfl
     have b102 := hf.l 102 rfl
     have b103 := hf.l 103 rfl
     refine Fact.p rfl fun K hK => ?_
     go_simp
     refine hK.out _ _ ?_; clear hK K
     refine Fact.p rfl fun K hK => ?_
     go_simp
     refine hK.out _ _ ?_; clear hK K
     refine Fact.p rfl fun K hK => ?_
     go_simp
     try rw [if_pos (by omega)]
     refine hK.out _ _ ?_; clear hK K
     refine Fact.p rfl fun K hK => ?_
     go_simp
     refine hK.out _ _ ?_; clear hK K
     refine Fact.p rfl fun K hK => ?_
     go_simp
     refine hK.out _ _ ?_; clear hK K
     refine Fact.p rfl fun K hK => ?_
     go_simp
     refine hK.out _ _ ?_; clear hK K
     refine Fact.p rfl fun K hK => ?_
     go_simp
     refine hK.out _ _ ?_; clear hK K
     refine Fact.op_skip (g := 6) (d := 93) (b := true) rfl rfl rfl ?_ ?_
     ·
      simp only [Fact.G, Nat.reduceEqDiff, Nat.reduceLT, reduceIte, hf.size, Bool.not_true, Bool.not_false, q1, Bool.not_true]
     refine Fact.op_skip (g := 6) (d := 93) (b := true) rfl rfl rfl ?_ ?_
     ·
      simp only [Fact.G, Nat.reduceEqDiff, Nat.reduceLT, reduceIte, hf.size, Bool.not_true, Bool.not_false, q1, Bool.not_true]
     refine Fact.op_skip (g := 6) (d := 93) (b := true) rfl rfl rfl ?_ ?_
     ·
      simp only [Fact.G, Nat.reduceEqDiff, Nat.reduceLT, reduceIte, hf.size, Bool.not_true, Bool.not_false, q1, Bool.not_true]
     refine Fact.op_skip' (g := 9) (d := 96) (b := false) rfl rfl rfl ?_ ?_
     ·
      simp only [Fact.G, Nat.reduceEqDiff, Nat.reduceLT, reduceIte, hf.size, Bool.not_true, Bool.not_false, q1, Bool.not_true]
     refine Fact.op_skip' (g := 9) (d := 96) (b := false) rfl rfl rfl ?_ ?_
     ·
      simp only [Fact.G, Nat.reduceEqDiff, Nat.reduceLT, reduceIte, hf.size, Bool.not_true, Bool.not_false, q1, Bool.not_true]
     refine Fact.op_skip' (g := 9) (d := 96) (b := false) rfl rfl rfl ?_ ?_
     ·
      simp only [Fact.G, Nat.reduceEqDiff, Nat.reduceLT, reduceIte, hf.size, Bool.not_true, Bool.not_false, q1, Bool.not_true]
     refine Fact.op_skip' (g := 9) (d := 96) (b := false) rfl rfl rfl ?_ ?_
     ·
      simp only [Fact.G, Nat.reduceEqDiff, Nat.reduceLT, reduceIte, hf.size, Bool.not_true, Bool.not_false, q1, Bool.not_true]
     refine Fact.op_skip' (g := 9) (d := 96) (b := false) rfl rfl rfl ?_ ?_
     ·
      simp only [Fact.G, Nat.reduceEqDiff, Nat.reduceLT, reduceIte, hf.size, Bool.not_true, Bool.not_false, q1, Bool.not_true]
     refine Fact.op_skip' (g := 9) (d := 96) (b := false) rfl rfl rfl ?_ ?_
     ·
      simp only [Fact.G, Nat.reduceEqDiff, Nat.reduceLT, reduceIte, hf.size, Bool.not_true, Bool.not_false, q1, Bool.not_true]
     refine Fact.op_skip (g := 6) (d := 93) (b := true) rfl rfl rfl ?_ ?_
     ·
      simp only [Fact.G, Nat.reduceEqDiff, Nat.reduceLT, reduceIte, hf.size, Bool.not_true, Bool.not_false, q1, Bool.not_true]
     refine Fact.p rfl fun K hK => ?_
     go_simp
     refine hK.out _ _ ?_; clear hK K
     refine Fact.nil ?_
     refine Fact.reQ (n := 105) (by simp only [Fact.G, hf.size]) hf.defers (fun fr1 hf1 hT => ?_)
     have hKp : _ ∧ _ ∧ _ ∧ _ ∧ _ ∧ _ ∧ _ ∧ _ ∧ _ ∧ _ ∧ _ ∧ _ ∧ _ ∧ _ ∧ _ ∧ _ ∧ _ ∧ _ ∧ _ ∧ _ ∧ _ ∧ _ ∧ _ ∧ _ ∧ _ ∧ _ ∧ _ ∧ _ ∧ _ ∧ _ ∧ _ ∧ _ ∧ _ ∧ _ ∧ _ ∧ _ ∧ _ ∧ _ ∧ _ ∧ _ ∧ _ := ⟨hT 5, hT 7, hT 8, hT 9, hT 13, hT 14, hT 15, hT 69, hT 70, hT 71, hT 72, hT 75, hT 76, hT 77, hT 78, hT 79, hT 80, hT 81, hT 82, hT 83, hT 84, hT 85, hT 86, hT 87, hT 88, hT 89, hT 90, hT 91, hT 92, hT 93, hT 94, hT 95, hT 96, hT 97, hT 98, hT 99, hT 100, hT 101, hT 102, hT 103, hT 104⟩
     simp only [Fact.G, Nat.reduceEqDiff, Nat.reduceLT, reduceIte, hf.size, s5, s7, s8, s9, s13, s14, s15, s69, s70, s71, s72, s75, s76, s77, s78, s79, s80, s81, s82, s83, s84, s85, s86] at hKp
     clear hT hf s5 s7 s8 s9 s13 s14 s15 s69 s70 s71 s72 s75 s76 s77 s78 s79 s80 s81 s82 s83 s84 s85 s86 b87 b88 b89 b90 b91 b92 b93 b94 b95 b96 b97 b98 b99 b100 b101 b102 b103
     obtain ⟨s5, s7, s8, s9, s13, s14, s15, s69, s70, s71, s72, s75, s76, s77, s78, s79, s80, s81, s82, s83, s84, s85, s86, s87, s88, s89, s90, s91, s92, s93, s94, s95, s96, s97, s98, s99, s100, s101, s102, s103, s104⟩ := hKp
     have hf := hf1; clear hf1
     refine Fact.then_normal ?_
     refine hK34 _ _ ?_
     try simp only [q1] at s104
     refine Fact.cond_f s104 ?_
     refine wp_skip ?_
     refine Fact.block_normal ?_
     refine Fact.then_normal ?_
     refine hK31 _ _ ?_
     refine Fact.region ?_
     have b73 := hf.l 73 rfl
     have b74 := hf.l 74 rfl
     refine Fact.p rfl fun K hK => ?_
     go_simp
     refine hK.out _ _ ?_; clear hK K
     refine Fact.p rfl fun K hK => ?_
     go_simp
     try simp (disch := omega) only [Fact.wrap_i64, Fact.wrap_u8, Fact.wrap_u32, Fact.wrap_u64]
     refine hK.out _ _ ?_; clear hK K
     refine Fact.p rfl fun K hK => ?_
     go_simp
     refine hK.out _ _ ?_; clear hK K
     refine Fact.nil ?_
     refine Fact.reQ (n := 105) (by simp only [Fact.G, hf.size]) hf.defers (fun fr1 hf1 hT => ?_)
     have hKp : _ ∧ _ ∧ _ ∧ _ ∧ _ ∧ _ ∧ _ ∧ _ ∧ _ ∧ _ ∧ _ ∧ _ ∧ _ ∧ _ ∧ _ ∧ _ ∧ _ ∧ _ ∧ _ ∧ _ ∧ _ ∧ _ ∧ _ ∧ _ ∧ _ ∧ _ ∧ _ ∧ _ ∧ _ ∧ _ ∧ _ ∧ _ ∧ _ ∧ _ ∧ _ ∧ _ ∧ _ ∧ _ ∧ _ ∧ _ ∧ _ ∧ _ ∧ _ := ⟨hT 5, hT 7, hT 8, hT 9, hT 13, hT 14, hT 15, hT 69, hT 70, hT 71, hT 72, hT 73, hT 74, hT 75, hT 76, hT 77, hT 78, hT 79, hT 80, hT 81, hT 82, hT 83, hT 84, hT 85, hT 86, hT 87, hT 88, hT 89, hT 90, hT 91, hT 92, hT 93, hT 94, hT 95, hT 96, hT 97, hT 98, hT 99, hT 100, hT 101, hT 102, hT 103, hT 104⟩
     simp only [Fact.G, Nat.reduceEqDiff, Nat.reduceLT, reduceIte, hf.size, s5, s7, s8, s9, s14, s15, s69, s70, s71, s72, s75, s76, s77, s78, s79, s80, s81, s82, s83, s84, s85, s86, s87, s88, s89, s90, s91, s92, s93, s94, s95, s96, s97, s98, s99, s100, s101, s102, s103, s104] at hKp
     clear hT hf s5 s7 s8 s9 s13 s14 s15 s69 s70 s71 s72 s75 s76 s77 s78 s79 s80 s81 s82 s83 s84 s85 s86 s87 s88 s89 s90 s91 s92 s93 s94 s95 s96 s97 s98 s99 s100 s101 s102 s103 s104 b73 b74
     obtain ⟨s5, s7, s8, s9, s13, s14, s15, s69, s70, s71, s72, s73, s74, s75, s76, s77, s78, s79, s80, s81, s82, s83, s84, s85, s86, s87, s88, s89, s90, s91, s92, s93, s94, s95, s96, s97, s98, s99, s100, s101, s102, s103, s104⟩ := hKp
     have hf := hf1; clear hf1
     refine Fact.then_normal ?_
     exact ⟨_, by have := HK.out; omega, n + 1, rfl, by omega, hf, s5, s7, s8, s9, s13, hbr.trans (hb8.mono hbr.size)⟩
   ·
    have hne : n = q.size + 1 := by have h9 := of_decide_eq_false hq; omega
    refine wp_exit ?_
    refine Fact.then_exit ?_
    refine Fact.then_exit ?_
    refine Fact.block_exit ?_
    refine Fact.then_normal ?_
    refine hK27 _ _ ?_
    refine wp_seq_k (fun K35 hK35 => ?_)
    refine Fact.region ?_
    refine Fact.p rfl fun K hK => ?_
    go_simp
    refine hK.out _ _ ?_; clear hK K
    refine Fact.nil ?_
    refine Fact.reQ (n := 105) (by simp only [Fact.G, hf.size]) hf.defers (fun fr1 hf1 hT => ?_)
    have hKp := hT 4
    simp only [Fact.G, Nat.reduceEqDiff, Nat.reduceLT, reduceIte, hf.size] at hKp
    clear hT hf s5 s7 s8 s9 s13 s69 s70 s71 s72
    have s4 := hKp; clear hKp
    have hf := hf1; clear hf1
    refine Fact.then_normal ?_
    refine hK35 _ _ ?_
    refine wp_ret ?_
    exact Fact.ret1 rfl hf s4 ⟨rfl, hb7.trans (hbr.mono hb7.size)⟩
end Lv
end Go.Proofs.Ytfgfichkcckhiaa
