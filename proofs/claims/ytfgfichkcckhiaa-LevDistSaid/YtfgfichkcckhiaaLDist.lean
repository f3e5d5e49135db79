/- Lev: LevDist. -/
import Derived.Test.YtfgfichkcckhiaaLOf
import Derived.Test.YtfgfichkcckhiaaLBound
namespace Go.Proofs.Ytfgfichkcckhiaa
open Go.RowKit
set_option linter.unusedSimpArgs false
set_option linter.unusedVariables false
set_option linter.unnecessarySimpa false
namespace Lv
set_option maxHeartbeats 4000000 in
set_option maxRecDepth 100000 in
theorem dist6 (Q T0 : ByteArray) (z : Int) (hz : -128 ≤ z ∧ z ≤ 127) (w : World) : Calls Try.prog 6 #[.agg #[.string Q, .string T0, .int .i8 z]] w fun e w1 => e = .returned (.bool true) ∧ Below w.heap.size w w1 := by
 refine calls_of_wp Try.func6 rfl ?_
 refine Fact.enter (n := 163) (by kernel_rfl) (fun fr hf hT => ?_)
 have s0 := hT 0 _ rfl
 clear hT
 obtain ⟨W0, hW0⟩ : ∃ W0, w.alloc (.cells #[.string Q, .string T0, .int .i8 z] 24) = W0 := ⟨_, rfl⟩
 have hb0 : Below w.heap.size w W0 := by rw [← hW0]; exact (Below.refl _ _).alloc (Nat.le_refl _) _
 have hc0 := ask_cells w Q T0 z W0 hW0
 obtain ⟨x0, x1, x2⟩ := hc0
 refine wp_seq_k (fun K1 hK1 => ?_)
 refine Fact.region ?_
 refine Fact.p rfl fun K hK => ?_
 go_simp
 refine hK.out _ _ ?_; clear hK K
 refine Fact.p rfl fun K hK => ?_
 go_simp
 refine hK.out _ _ ?_; clear hK K
 refine Fact.nil ?_
 refine Fact.reQ (n := 163) (by simp only [Fact.G, hf.size]) hf.defers (fun fr1 hf1 hT => ?_)
 have hKp : _ ∧ _ := ⟨hT 1, hT 2⟩
 simp only [Fact.G, Nat.reduceEqDiff, Nat.reduceLT, reduceIte, hf.size] at hKp
 clear hT hf s0
 obtain ⟨s1, s2⟩ := hKp
 have hf := hf1; clear hf1
 refine Fact.then_normal ?_
 refine hK1 _ _ ?_
 try rw [hW0]
 clear hW0
 refine wp_seq_k (fun K2 hK2 => ?_)
 refine wp_seq_k (fun K3 hK3 => ?_)
 refine Fact.region ?_
 have b19 := hf.l 19 rfl
 refine Fact.p rfl fun K hK => ?_
 go_simp
 go_at_call 20; refine (works20 W0).mono ?_; rintro e w1 ⟨rfl, h1⟩
 dsimp only
 refine hK.out _ _ ?_; clear hK K
 refine Fact.p rfl fun K hK => ?_
 go_simp
 refine hK.out _ _ ?_; clear hK K
 refine Fact.nil ?_
 refine Fact.reQ (n := 163) (by simp only [Fact.G, hf.size]) hf.defers (fun fr1 hf1 hT => ?_)
 have hKp : _ ∧ _ ∧ _ := ⟨hT 1, hT 2, hT 20⟩
 simp only [Fact.G, Nat.reduceEqDiff, Nat.reduceLT, reduceIte, hf.size, s1, s2] at hKp
 clear hT hf s1 s2 b19
 obtain ⟨s1, s2, s20⟩ := hKp
 have hf := hf1; clear hf1
 refine Fact.then_normal ?_
 refine hK3 _ _ ?_
 try simp only [Bool.not_true] at s20
 refine Fact.cond_f s20 ?_
 refine wp_skip ?_
 refine Fact.then_normal ?_
 refine hK2 _ _ ?_
 have hb1 := hb0.trans (h1.mono hb0.size)
 have y0 := cell_later h1 x0; have y1 := cell_later h1 x1; have y2 := cell_later h1 x2
 clear x0 x1 x2
 refine wp_seq_k (fun K4 hK4 => ?_)
 refine Stab.todo_begin (n := 163) (Stab.OkOps.of (by kernel_rfl)) (fun hok => ?_)
 apply Stab.t 0 _ hf.size hok.out rfl
 ·
  intro fr1 w1 hh hd hk K hK
  refine Stab.op_plain (o := _) rfl rfl ?_
  have s1 := Stab.o hh (by kernel_rfl) s1
  clear hd
  go_simp
  exact hK.out _ rfl _ _ (Below.refl _ _) rfl
 apply Stab.t 1 _ hf.size hok.out rfl
 ·
  intro fr1 w1 hh hd hk K hK
  refine Stab.op_plain (o := _) rfl rfl ?_
  have s21 := Stab.u 0 0 hd hk rfl [] (by kernel_rfl) rfl rfl rfl
  clear hd
  have u0 := cell_later hh.ext y0
  go_simp
  exact hK.out _ rfl _ _ (Below.refl _ _) rfl
 apply Stab.t 2 _ hf.size hok.out rfl
 ·
  intro fr1 w1 hh hd hk K hK
  refine Stab.op_plain (o := _) rfl rfl ?_
  have s22 := Stab.u 1 0 hd hk rfl [] (by kernel_rfl) rfl rfl rfl
  clear hd
  go_simp
  go_at_call 9; refine (few9b Q 80 w1).mono ?_; rintro e w2 ⟨rfl, hb⟩
  exact hK.out _ rfl _ _ hb rfl
 apply Stab.t 3 _ hf.size hok.out rfl
 ·
  intro fr1 w1 hh hd hk K hK
  refine Stab.op_plain (o := _) rfl rfl ?_
  have s1 := Stab.o hh (by kernel_rfl) s1
  clear hd
  go_simp
  exact hK.out _ rfl _ _ (Below.refl _ _) rfl
 apply Stab.t 4 _ hf.size hok.out rfl
 ·
  intro fr1 w1 hh hd hk K hK
  refine Stab.op_plain (o := _) rfl rfl ?_
  have s24 := Stab.u 3 0 hd hk rfl [] (by kernel_rfl) rfl rfl rfl
  clear hd
  have u0 := cell_later hh.ext y1
  go_simp
  exact hK.out _ rfl _ _ (Below.refl _ _) rfl
 apply Stab.t 5 _ hf.size hok.out rfl
 ·
  intro fr1 w1 hh hd hk K hK
  refine Stab.op_plain (o := _) rfl rfl ?_
  have s25 := Stab.u 4 0 hd hk rfl [] (by kernel_rfl) rfl rfl rfl
  clear hd
  go_simp
  go_at_call 9; refine (few9b T0 80 w1).mono ?_; rintro e w2 ⟨rfl, hb⟩
  exact hK.out _ rfl _ _ hb rfl
 apply Stab.t 6 _ hf.size hok.out rfl
 ·
  intro fr1 w1 hh hd hk K hK
  refine Stab.op_plain (o := _) rfl rfl ?_
  have s1 := Stab.o hh (by kernel_rfl) s1
  clear hd
  have u0 := cell_later hh.ext y0; have u1 := cell_later hh.ext y1; have u2 := cell_later hh.ext y2
  go_simp
  exact hK.out _ rfl _ _ (Below.refl _ _) rfl
 apply Stab.t 7 _ hf.size hok.out rfl
 ·
  intro fr1 w1 hh hd hk K hK
  refine Stab.op_plain (o := _) rfl rfl ?_
  have s27 := Stab.u 6 0 hd hk rfl [] (by kernel_rfl) rfl rfl rfl
  clear hd
  go_simp
  go_at_call 12; refine (bound12 Q T0 z hz w1).mono ?_; rintro e w2 ⟨rfl, hb⟩
  exact hK.out _ rfl _ _ hb rfl
 refine Stab.mvN (k := 8) (j := 2) (m := 5) hf.size hok.out rfl rfl rfl (.inr rfl) rfl [] (by kernel_rfl) rfl rfl rfl ?_
 refine Stab.mvN (k := 9) (j := 5) (m := 3) hf.size hok.out rfl rfl rfl (.inr rfl) rfl [] (by kernel_rfl) rfl rfl rfl ?_
 refine Stab.mvN (k := 10) (j := 7) (m := 2) hf.size hok.out rfl rfl rfl (.inr rfl) rfl [] (by kernel_rfl) rfl rfl rfl ?_
 refine Stab.todo_facts (n := 163) (by kernel_rfl) hf.size hok.out rfl (fun fr1 w1 hh hg => ?_)
 replace s2 := Stab.o hh (by kernel_rfl) s2
 have s3 := Stab.e 8 2 hg rfl rfl rfl rfl
 have s4 := Stab.e 9 1 hg rfl rfl rfl rfl
 have s5 := Stab.e 10 0 hg rfl rfl rfl rfl
 have hf1 : Fact.Fr 163 fr1 := ⟨hh.size.trans hf.size, hh.defers.trans hf.defers⟩
 have hx := hh.ext
 clear hg hh hf hok s1 s20
 have hf := hf1; clear hf1
 refine Fact.then_normal ?_
 refine hK4 _ _ ?_
 have hb2 := hb1.trans (hx.mono hb1.size)
 obtain ⟨q, hq⟩ : ∃ q, few Q 80 = q := ⟨_, rfl⟩
 obtain ⟨t, ht⟩ : ∃ t, few T0 80 = t := ⟨_, rfl⟩
 obtain ⟨k, hk⟩ : ∃ k, bnd z = k := ⟨_, rfl⟩
 have hq80 : q.size ≤ 80 := by rw [← hq]; exact few_size _ _
 have ht80 : t.size ≤ 80 := by rw [← ht]; exact few_size _ _
 have hk3 : k ≤ 3 := by rw [← hk]; exact bnd_le z
 rw [hq] at s3; rw [ht] at s4; rw [hk] at s5
 clear hq ht hk y0 y1 y2 hx h1 hb0 hb1
 refine wp_seq_k (fun K5 hK5 => ?_)
 refine Fact.region ?_
 have b29 := hf.l 29 rfl
 have b30 := hf.l 30 rfl
 have b31 := hf.l 31 rfl
 have b32 := hf.l 32 rfl
 have b33 := hf.l 33 rfl
 have b34 := hf.l 34 rfl
 refine Fact.p rfl fun K hK => ?_
 go_simp
 refine hK.out _ _ ?_; clear hK K
 refine Fact.p rfl fun K hK => ?_
 go_simp
 refine hK.out _ _ ?_; clear hK K
 refine Fact.p rfl fun K hK => ?_
 go_simp
 go_at_call 10; refine (new10 q k (by omega) hk3 w1).mono ?_; rintro e w2 ⟨g, rfl, hA2, hg2, h2⟩
 dsimp only
 refine hK.out _ _ ?_; clear hK K
 refine Fact.p rfl fun K hK => ?_
 go_simp
 refine hK.out _ _ ?_; clear hK K
 refine Fact.p rfl fun K hK => ?_
 go_simp
 refine hK.out _ _ ?_; clear hK K
 refine Fact.p rfl fun K hK => ?_
 go_simp
 go_at_call 10; refine (new10 t k (by omega) hk3 w2).mono ?_; rintro e w3 ⟨u, rfl, hB3, hu3, h3⟩
 dsimp only
 refine hK.out _ _ ?_; clear hK K
 refine Fact.p rfl fun K hK => ?_
 go_simp
 refine hK.out _ _ ?_; clear hK K
 refine Fact.p rfl fun K hK => ?_
 go_simp
 refine hK.out _ _ ?_; clear hK K
 refine Fact.nil ?_
 refine Fact.reQ (n := 163) (by simp only [Fact.G, hf.size]) hf.defers (fun fr1 hf1 hT => ?_)
 have hKp : _ ∧ _ ∧ _ ∧ _ ∧ _ ∧ _ := ⟨hT 2, hT 3, hT 4, hT 5, hT 6, hT 7⟩
 simp only [Fact.G, Nat.reduceEqDiff, Nat.reduceLT, reduceIte, hf.size, s2, s3, s4, s5] at hKp
 clear hT hf s2 s3 s4 s5 b29 b30 b31 b32 b33 b34
 obtain ⟨s2, s3, s4, s5, s6, s7⟩ := hKp
 have hf := hf1; clear hf1
 refine Fact.then_normal ?_
 refine hK5 _ _ ?_
 have hb3 := (hb2.trans (h2.mono hb2.size)).trans (h3.mono (by have := h2.size; have := hb2.size; omega))
 have hA3 := hA2.later h3
 clear hA2 hg2 hu3
 refine wp_seq_k (fun K6 hK6 => ?_)
 refine wp_seq_k (fun K7 hK7 => ?_)
 refine Fact.region ?_
 have b35 := hf.l 35 rfl
 have b36 := hf.l 36 rfl
 have b37 := hf.l 37 rfl
 have b38 := hf.l 38 rfl
 have b39 := hf.l 39 rfl
 refine Fact.p rfl fun K hK => ?_
 go_simp
 refine hK.out _ _ ?_; clear hK K
 refine Fact.p rfl fun K hK => ?_
 go_simp
 refine hK.out _ _ ?_; clear hK K
 refine Fact.p rfl fun K hK => ?_
 go_simp
 refine hK.out _ _ ?_; clear hK K
 refine Fact.op_guard (g := 2) (d := 37) (b := false) rfl rfl rfl ?_ (fun K hK => ?_)
 ·
  simp only [Fact.G, Nat.reduceEqDiff, Nat.reduceLT, reduceIte, hf.size]
 go_simp
 refine hK.out _ _ ?_; clear hK K
 refine Fact.op_guard (g := 2) (d := 37) (b := false) rfl rfl rfl ?_ (fun K hK => ?_)
 ·
  simp only [Fact.G, Nat.reduceEqDiff, Nat.reduceLT, reduceIte, hf.size]
 go_simp
 refine hK.out _ _ ?_; clear hK K
 refine Fact.p rfl fun K hK => ?_
 go_simp
 refine hK.out _ _ ?_; clear hK K
 refine Fact.nil ?_
 refine Fact.reQ (n := 163) (by simp only [Fact.G, hf.size]) hf.defers (fun fr1 hf1 hT => ?_)
 have hKp : _ ∧ _ ∧ _ ∧ _ ∧ _ ∧ _ ∧ _ := ⟨hT 2, hT 3, hT 4, hT 5, hT 6, hT 7, hT 40⟩
 simp only [Fact.G, Nat.reduceEqDiff, Nat.reduceLT, reduceIte, hf.size, s2, s3, s4, s5, s6, s7] at hKp
 clear hT hf s2 s3 s4 s5 s6 s7 b35 b36 b37 b38 b39
 obtain ⟨s2, s3, s4, s5, s6, s7, s40⟩ := hKp
 have hf := hf1; clear hf1
 refine Fact.then_normal ?_
 refine hK7 _ _ ?_
 refine Fact.cond_f s40 ?_
 refine wp_skip ?_
 refine Fact.then_normal ?_
 refine hK6 _ _ ?_
 refine wp_seq_k (fun K8 hK8 => ?_)
 refine Fact.region ?_
 have b41 := hf.l 41 rfl
 have b42 := hf.l 42 rfl
 refine Fact.p rfl fun K hK => ?_
 go_simp
 refine hK.out _ _ ?_; clear hK K
 refine Fact.p rfl fun K hK => ?_
 go_simp
 go_at_call 13; refine (start13 w3 g q k hA3).mono ?_; rintro e w4 ⟨rfl, h4⟩
 dsimp only
 refine hK.out _ _ ?_; clear hK K
 refine Fact.p rfl fun K hK => ?_
 go_simp
 refine hK.out _ _ ?_; clear hK K
 refine Fact.nil ?_
 refine Fact.reQ (n := 163) (by simp only [Fact.G, hf.size]) hf.defers (fun fr1 hf1 hT => ?_)
 have hKp : _ ∧ _ ∧ _ ∧ _ ∧ _ ∧ _ ∧ _ := ⟨hT 2, hT 3, hT 4, hT 5, hT 6, hT 7, hT 8⟩
 simp only [Fact.G, Nat.reduceEqDiff, Nat.reduceLT, reduceIte, hf.size, s2, s3, s4, s5, s6, s7] at hKp
 clear hT hf s2 s3 s4 s5 s6 s7 s40 b41 b42
 obtain ⟨s2, s3, s4, s5, s6, s7, s8⟩ := hKp
 have hf := hf1; clear hf1
 refine Fact.then_normal ?_
 refine hK8 _ _ ?_
 have hb4 := hb3.trans (h4.mono hb3.size)
 have hA4 := hA3.later h4
 have hB4 := hB3.later h4
 clear hA3 hB3 hb3 hb2 h2 h3 h4
 refine wp_seq_k (fun K9 hK9 => ?_)
 refine wp_seq_k (fun K10 hK10 => ?_)
 refine Fact.region ?_
 refine Fact.p rfl fun K hK => ?_
 go_simp
 refine hK.out _ _ ?_; clear hK K
 refine Fact.nil ?_
 refine Fact.reQ (n := 163) (by simp only [Fact.G, hf.size]) hf.defers (fun fr1 hf1 hT => ?_)
 have hKp : _ ∧ _ ∧ _ ∧ _ ∧ _ ∧ _ ∧ _ ∧ _ := ⟨hT 2, hT 3, hT 4, hT 5, hT 6, hT 7, hT 8, hT 9⟩
 simp only [Fact.G, Nat.reduceEqDiff, Nat.reduceLT, reduceIte, hf.size, s2, s3, s4, s5, s6, s7, s8] at hKp
 clear hT hf s2 s3 s4 s5 s6 s7 s8
 obtain ⟨s2, s3, s4, s5, s6, s7, s8, s9⟩ := hKp
 have hf := hf1; clear hf1
 refine Fact.then_normal ?_
 refine hK10 _ _ ?_
 refine wp_block ?_
 refine wp_loop_ghost (fun g1 fr wr => ∃ (i : Nat) (S : ByteArray), g1 = t.size + 1 - i ∧ i ≤ t.size + 1 ∧ S = readN q k (startS q k) t (min i t.size) ∧ Fact.Fr 163 fr ∧ fr.tmps[3]? = some (.string q) ∧ fr.tmps[4]? = some (.string t) ∧ fr.tmps[5]? = some (.int .i64 k) ∧ fr.tmps[6]? = some (.pointer (some ⟨g, 0, none⟩)) ∧ fr.tmps[7]? = some (.pointer (some ⟨u, 0, none⟩)) ∧ fr.tmps[8]? = some (.string S) ∧ fr.tmps[9]? = some (.int .i64 i) ∧ Below w4.heap.size w4 wr) (t.size + 1) ?_ ?_
 ·
  exact ⟨0, _, rfl, Nat.zero_le _, by rw [Nat.zero_min]; rfl, hf, s3, s4, s5, s6, s7, s8, s9, Below.refl _ _⟩
 ·
  clear hf s2 s3 s4 s5 s6 s7 s8 s9
  rintro g1 fr wr ⟨i, S, hk1, hi, hS, hf, s3, s4, s5, s6, s7, s8, s9, hbr⟩
  have HK := Lib.hid hk1; clear hk1
  have hokS : okS q k S = true := by rw [hS]; exact readN_ok (start_ok hk3) hk3 _
  have hsz := okS_size hokS
  have HS := Lib.hid hS; clear hS
  have hAr := hA4.later hbr; have hBr := hB4.later hbr
  refine wp_seq_k (fun K11 hK11 => ?_)
  refine wp_seq_k (fun K12 hK12 => ?_)
  refine Fact.region ?_
  have b43 := hf.l 43 rfl
  have b44 := hf.l 44 rfl
  have b45 := hf.l 45 rfl
  refine Fact.p rfl fun K hK => ?_
  go_simp
  refine hK.out _ _ ?_; clear hK K
  refine Fact.p rfl fun K hK => ?_
  go_simp
  refine hK.out _ _ ?_; clear hK K
  refine Fact.p rfl fun K hK => ?_
  go_simp
  refine hK.out _ _ ?_; clear hK K
  refine Fact.p rfl fun K hK => ?_
  go_simp
  refine hK.out _ _ ?_; clear hK K
  refine Fact.nil ?_
  refine Fact.reQ (n := 163) (by simp only [Fact.G, hf.size]) hf.defers (fun fr1 hf1 hT => ?_)
  have hKp : _ ∧ _ ∧ _ ∧ _ ∧ _ ∧ _ ∧ _ ∧ _ ∧ _ ∧ _ ∧ _ := ⟨hT 3, hT 4, hT 5, hT 6, hT 7, hT 8, hT 9, hT 43, hT 44, hT 45, hT 46⟩
  simp only [Fact.G, Nat.reduceEqDiff, Nat.reduceLT, reduceIte, hf.size, s3, s4, s5, s6, s7, s8, s9] at hKp
  clear hT hf s3 s4 s5 s6 s7 s8 s9 b43 b44 b45
  obtain ⟨s3, s4, s5, s6, s7, s8, s9, s43, s44, s45, s46⟩ := hKp
  have hf := hf1; clear hf1
  refine Fact.then_normal ?_
  refine hK12 _ _ ?_
  refine Fact.cond_s s46 (fun hq => ?_) (fun hq => ?_)
  ·
   have hit : i ≤ t.size := by have h9 := of_decide_eq_true hq; omega
   rw [show min i t.size = i by omega] at HS
   have e1 : IntKind.i64.wrap ((i : Int) + 1) = ((i + 1 : Nat) : Int) := by rw [Fact.wrap_i64 (by omega) (by omega)]; omega
   refine wp_skip ?_
   refine Fact.then_normal ?_
   refine hK11 _ _ ?_
   refine wp_seq_k (fun K13 hK13 => ?_)
   refine wp_block ?_
   refine wp_seq_k (fun K14 hK14 => ?_)
   refine Fact.region ?_
   have b50 := hf.l 50 rfl
   have b51 := hf.l 51 rfl
   have b52 := hf.l 52 rfl
   have b49 := hf.l 49 rfl
   have b53 := hf.l 53 rfl
   have b54 := hf.l 54 rfl
   refine Fact.p rfl fun K hK => ?_
   go_simp
   refine hK.out _ _ ?_; clear hK K
   refine Fact.p rfl fun K hK => ?_
   go_simp
   refine hK.out _ _ ?_; clear hK K
   refine Fact.p rfl fun K hK => ?_
   go_simp
   go_at_call 22; refine (dist22 wr g q k hAr S).mono ?_; rintro e w5 ⟨rfl, h5⟩
   dsimp only
   refine hK.out _ _ ?_; clear hK K
   refine Fact.p rfl fun K hK => ?_
   go_simp
   refine hK.out _ _ ?_; clear hK K
   refine Fact.p rfl fun K hK => ?_
   go_simp
   refine hK.out _ _ ?_; clear hK K
   refine Fact.p rfl fun K hK => ?_
   go_simp
   refine hK.out _ _ ?_; clear hK K
   refine Fact.p rfl fun K hK => ?_
   go_simp
   refine hK.out _ _ ?_; clear hK K
   refine Fact.p rfl fun K hK => ?_
   go_simp
   refine hK.out _ _ ?_; clear hK K
   refine Fact.nil ?_
   refine Fact.reQ (n := 163) (by simp only [Fact.G, hf.size]) hf.defers (fun fr1 hf1 hT => ?_)
   have hKp : _ ∧ _ ∧ _ ∧ _ ∧ _ ∧ _ ∧ _ ∧ _ ∧ _ ∧ _ ∧ _ ∧ _ ∧ _ ∧ _ ∧ _ ∧ _ ∧ _ ∧ _ ∧ _ := ⟨hT 3, hT 4, hT 5, hT 6, hT 7, hT 8, hT 9, hT 10, hT 11, hT 43, hT 44, hT 45, hT 46, hT 49, hT 50, hT 51, hT 52, hT 53, hT 54⟩
   simp only [Fact.G, Nat.reduceEqDiff, Nat.reduceLT, reduceIte, hf.size, s3, s4, s5, s6, s7, s8, s9, s43, s44, s45, s46] at hKp
   clear hT hf s3 s4 s5 s6 s7 s8 s9 s43 s44 s45 s46 b50 b51 b52 b49 b53 b54
   obtain ⟨s3, s4, s5, s6, s7, s8, s9, s10, s11, s43, s44, s45, s46, s49, s50, s51, s52, s53, s54⟩ := hKp
   have hf := hf1; clear hf1
   refine Fact.then_normal ?_
   refine hK14 _ _ ?_
   refine wp_seq_k (fun K15 hK15 => ?_)
   refine Fact.region ?_
   have b56 := hf.l 56 rfl
   have b57 := hf.l 57 rfl
   have b58 := hf.l 58 rfl
   have b59 := hf.l 59 rfl
   have b60 := hf.l 60 rfl
   have b61 := hf.l 61 rfl
   have b55 := hf.l 55 rfl
   have b62 := hf.l 62 rfl
   have b63 := hf.l 63 rfl
   refine Fact.p rfl fun K hK => ?_
   go_simp
   refine hK.out _ _ ?_; clear hK K
   refine Fact.p rfl fun K hK => ?_
   go_simp
   refine hK.out _ _ ?_; clear hK K
   refine Fact.p rfl fun K hK => ?_
   go_simp
   refine hK.out _ _ ?_; clear hK K
   refine Fact.p rfl fun K hK => ?_
   go_simp
   try rw [if_pos (by omega)]
   refine hK.out _ _ ?_; clear hK K
   refine Fact.p rfl fun K hK => ?_
   go_simp
   refine hK.out _ _ ?_; clear hK K
   refine Fact.p rfl fun K hK => ?_
   go_simp
   go_at_call 23; refine (within23 q (t.extract 0 i) k (by omega) (by rw [ByteArray.size_extract]; omega) w5).mono ?_; rintro e w6 ⟨rfl, h6⟩
   rw [dst_take hit]
   dsimp only
   refine hK.out _ _ ?_; clear hK K
   refine Fact.p rfl fun K hK => ?_
   go_simp
   refine hK.out _ _ ?_; clear hK K
   refine Fact.p rfl fun K hK => ?_
   go_simp
   refine hK.out _ _ ?_; clear hK K
   refine Fact.p rfl fun K hK => ?_
   go_simp
   refine hK.out _ _ ?_; clear hK K
   refine Fact.p rfl fun K hK => ?_
   go_simp
   refine hK.out _ _ ?_; clear hK K
   refine Fact.p rfl fun K hK => ?_
   go_simp
   refine hK.out _ _ ?_; clear hK K
   refine Fact.nil ?_
   refine Fact.reQ (n := 163) (by simp only [Fact.G, hf.size]) hf.defers (fun fr1 hf1 hT => ?_)
   have hKp : _ ∧ _ ∧ _ ∧ _ ∧ _ ∧ _ ∧ _ ∧ _ ∧ _ ∧ _ ∧ _ ∧ _ ∧ _ ∧ _ ∧ _ ∧ _ ∧ _ ∧ _ ∧ _ ∧ _ ∧ _ ∧ _ ∧ _ ∧ _ ∧ _ ∧ _ ∧ _ ∧ _ ∧ _ ∧ _ := ⟨hT 3, hT 4, hT 5, hT 6, hT 7, hT 8, hT 9, hT 10, hT 11, hT 12, hT 13, hT 43, hT 44, hT 45, hT 46, hT 49, hT 50, hT 51, hT 52, hT 53, hT 54, hT 55, hT 56, hT 57, hT 58, hT 59, hT 60, hT 61, hT 62, hT 63⟩
   simp only [Fact.G, Nat.reduceEqDiff, Nat.reduceLT, reduceIte, hf.size, s3, s4, s5, s6, s7, s8, s9, s10, s11, s43, s44, s45, s46, s49, s50, s51, s52, s53, s54] at hKp
   clear hT hf s3 s4 s5 s6 s7 s8 s9 s10 s11 s43 s44 s45 s46 s49 s50 s51 s52 s53 s54 b56 b57 b58 b59 b60 b61 b55 b62 b63
   obtain ⟨s3, s4, s5, s6, s7, s8, s9, s10, s11, s12, s13, s43, s44, s45, s46, s49, s50, s51, s52, s53, s54, s55, s56, s57, s58, s59, s60, s61, s62, s63⟩ := hKp
   have hf := hf1; clear hf1
   refine Fact.then_normal ?_
   refine hK15 _ _ ?_
   have d1 : distS q k S = if R q t i q.size ≤ k then R q t i q.size else 0 := by rw [HS.out, read_dist hk3]
   have d2 : isS q k S = decide (R q t i q.size ≤ k) := by rw [HS.out, read_is hk3]
   have d3 := @is_can q k S
   rw [← d1] at s12; rw [← d2] at s13
   clear d1 d2
   obtain ⟨D, hD⟩ : ∃ D, distS q k S = D := ⟨_, rfl⟩
   rw [hD] at s10 s12
   have hA6 := (hAr.later h5).later h6
   have hb6 := h5.trans (h6.mono h5.size)
   clear hD
   refine Fact.seq_meet (fun fr wr3 => Fact.Fr 163 fr ∧ fr.tmps[3]? = some (.string q) ∧ fr.tmps[4]? = some (.string t) ∧ fr.tmps[5]? = some (.int .i64 k) ∧ fr.tmps[6]? = some (.pointer (some ⟨g, 0, none⟩)) ∧ fr.tmps[7]? = some (.pointer (some ⟨u, 0, none⟩)) ∧ fr.tmps[8]? = some (.string S) ∧ fr.tmps[9]? = some (.int .i64 i) ∧ Below wr.heap.size wr wr3) ?_ ?_
   ·
    rcases hB : isS q k S with _ | _
    ·
     rw [hB] at s11 s13
     refine wp_seq_k (fun K16 hK16 => ?_)
     refine Fact.region ?_
     have b64 := hf.l 64 rfl
     have b65 := hf.l 65 rfl
     have b66 := hf.l 66 rfl
     have b67 := hf.l 67 rfl
     have b68 := hf.l 68 rfl
     have b69 := hf.l 69 rfl
     have b70 := hf.l 70 rfl
     have b71 := hf.l 71 rfl
     have b72 := hf.l 72 rfl
     have b73 := hf.l 73 rfl
     have b74 := hf.l 74 rfl
     have b75 := hf.l 75 rfl
     have b76 := hf.l 76 rfl
     have b77 := hf.l 77 rfl
     have b78 := hf.l 78 rfl
     have b79 := hf.l 79 rfl
     have b80 := hf.l 80 rfl
     have b81 := hf.l 81 rfl
     have b82 := hf.l 82 rfl
     have b83 := hf.l 83 rfl
     have b84 := hf.l 84 rfl
     have b85 := hf.l 85 rfl
     have b86 := hf.l 86 rfl
     have b87 := hf.l 87 rfl
     refine Fact.p rfl fun K hK => ?_
     go_simp
     refine hK.out _ _ ?_; clear hK K
     refine Fact.p rfl fun K hK => ?_
     go_simp
     refine hK.out _ _ ?_; clear hK K
     refine Fact.p rfl fun K hK => ?_
     go_simp
     refine hK.out _ _ ?_; clear hK K
     refine Fact.p rfl fun K hK => ?_
     go_simp
     refine hK.out _ _ ?_; clear hK K
     refine Fact.op_guard (g := 3) (d := 67) (b := false) rfl rfl rfl ?_ (fun K hK => ?_)
     ·
      simp only [Fact.G, Nat.reduceEqDiff, Nat.reduceLT, reduceIte, hf.size, bne_self_eq_false, Bool.not_true, Bool.not_false, hsz]
     go_simp
     refine hK.out _ _ ?_; clear hK K
     refine Fact.op_guard (g := 3) (d := 67) (b := false) rfl rfl rfl ?_ (fun K hK => ?_)
     ·
      simp only [Fact.G, Nat.reduceEqDiff, Nat.reduceLT, reduceIte, hf.size, bne_self_eq_false, Bool.not_true, Bool.not_false, hsz]
     go_simp
     refine hK.out _ _ ?_; clear hK K
     refine Fact.op_guard (g := 3) (d := 67) (b := false) rfl rfl rfl ?_ (fun K hK => ?_)
     ·
      simp only [Fact.G, Nat.reduceEqDiff, Nat.reduceLT, reduceIte, hf.size, bne_self_eq_false, Bool.not_true, Bool.not_false, hsz]
     go_simp
     refine hK.out _ _ ?_; clear hK K
     refine Fact.p rfl fun K hK => ?_
     go_simp
     refine hK.out _ _ ?_; clear hK K
     refine Fact.p rfl fun K hK => ?_
     go_simp
     refine hK.out _ _ ?_; clear hK K
     refine Fact.op_guard (g := 8) (d := 72) (b := false) rfl rfl rfl ?_ (fun K hK => ?_)
     ·
      simp only [Fact.G, Nat.reduceEqDiff, Nat.reduceLT, reduceIte, hf.size, bne_self_eq_false, Bool.not_true, Bool.not_false, hsz]
     go_simp
     refine hK.out _ _ ?_; clear hK K
     refine Fact.op_guard (g := 8) (d := 72) (b := false) rfl rfl rfl ?_ (fun K hK => ?_)
     ·
      simp only [Fact.G, Nat.reduceEqDiff, Nat.reduceLT, reduceIte, hf.size, bne_self_eq_false, Bool.not_true, Bool.not_false, hsz]
     go_simp
     refine hK.out _ _ ?_; clear hK K
     refine Fact.op_guard (g := 8) (d := 72) (b := false) rfl rfl rfl ?_ (fun K hK => ?_)
     ·
      simp only [Fact.G, Nat.reduceEqDiff, Nat.reduceLT, reduceIte, hf.size, bne_self_eq_false, Bool.not_true, Bool.not_false, hsz]
     go_simp
     refine hK.out _ _ ?_; clear hK K
     refine Fact.op_guard (g := 8) (d := 72) (b := false) rfl rfl rfl ?_ (fun K hK => ?_)
     ·
      simp only [Fact.G, Nat.reduceEqDiff, Nat.reduceLT, reduceIte, hf.size, bne_self_eq_false, Bool.not_true, Bool.not_false, hsz]
     go_simp
     refine hK.out _ _ ?_; clear hK K
     refine Fact.op_guard (g := 8) (d := 72) (b := false) rfl rfl rfl ?_ (fun K hK => ?_)
     ·
      simp only [Fact.G, Nat.reduceEqDiff, Nat.reduceLT, reduceIte, hf.size, bne_self_eq_false, Bool.not_true, Bool.not_false, hsz]
     go_simp
     try simp (disch := omega) only [Fact.wrap_i64, Fact.wrap_u8, Fact.wrap_u32, Fact.wrap_u64]
     refine hK.out _ _ ?_; clear hK K
     refine Fact.op_guard (g := 8) (d := 72) (b := false) rfl rfl rfl ?_ (fun K hK => ?_)
     ·
      simp only [Fact.G, Nat.reduceEqDiff, Nat.reduceLT, reduceIte, hf.size, bne_self_eq_false, Bool.not_true, Bool.not_false, hsz]
     go_simp
     refine hK.out _ _ ?_; clear hK K
     refine Fact.p rfl fun K hK => ?_
     go_simp
     refine hK.out _ _ ?_; clear hK K
     refine Fact.p rfl fun K hK => ?_
     go_simp
     refine hK.out _ _ ?_; clear hK K
     refine Fact.op_guard (g := 16) (d := 80) (b := false) rfl rfl rfl ?_ (fun K hK => ?_)
     ·
      simp only [Fact.G, Nat.reduceEqDiff, Nat.reduceLT, reduceIte, hf.size, bne_self_eq_false, Bool.not_true, Bool.not_false, hsz]
     go_simp
     refine hK.out _ _ ?_; clear hK K
     refine Fact.op_guard (g := 16) (d := 80) (b := false) rfl rfl rfl ?_ (fun K hK => ?_)
     ·
      simp only [Fact.G, Nat.reduceEqDiff, Nat.reduceLT, reduceIte, hf.size, bne_self_eq_false, Bool.not_true, Bool.not_false, hsz]
     go_simp
     refine hK.out _ _ ?_; clear hK K
     refine Fact.op_skip (g := 18) (d := 82) (b := true) rfl rfl rfl ?_ ?_
     ·
      simp only [Fact.G, Nat.reduceEqDiff, Nat.reduceLT, reduceIte, hf.size, Bool.not_true, Bool.not_false, bne_self_eq_false, Bool.not_true, Bool.not_false, hsz]
     refine Fact.op_skip (g := 18) (d := 82) (b := true) rfl rfl rfl ?_ ?_
     ·
      simp only [Fact.G, Nat.reduceEqDiff, Nat.reduceLT, reduceIte, hf.size, Bool.not_true, Bool.not_false, bne_self_eq_false, Bool.not_true, Bool.not_false, hsz]
     refine Fact.op_skip (g := 18) (d := 82) (b := true) rfl rfl rfl ?_ ?_
     ·
      simp only [Fact.G, Nat.reduceEqDiff, Nat.reduceLT, reduceIte, hf.size, Bool.not_true, Bool.not_false, bne_self_eq_false, Bool.not_true, Bool.not_false, hsz]
     refine Fact.op_skip (g := 18) (d := 82) (b := true) rfl rfl rfl ?_ ?_
     ·
      simp only [Fact.G, Nat.reduceEqDiff, Nat.reduceLT, reduceIte, hf.size, Bool.not_true, Bool.not_false, bne_self_eq_false, Bool.not_true, Bool.not_false, hsz]
     refine Fact.op_guard (g := 16) (d := 80) (b := false) rfl rfl rfl ?_ (fun K hK => ?_)
     ·
      simp only [Fact.G, Nat.reduceEqDiff, Nat.reduceLT, reduceIte, hf.size, bne_self_eq_false, Bool.not_true, Bool.not_false, hsz]
     go_simp
     refine hK.out _ _ ?_; clear hK K
     refine Fact.p rfl fun K hK => ?_
     go_simp
     refine hK.out _ _ ?_; clear hK K
     refine Fact.nil ?_
     refine Fact.reQ (n := 163) (by simp only [Fact.G, hf.size]) hf.defers (fun fr1 hf1 hT => ?_)
     have hKp : _ ∧ _ ∧ _ ∧ _ ∧ _ ∧ _ ∧ _ ∧ _ ∧ _ ∧ _ ∧ _ ∧ _ ∧ _ ∧ _ ∧ _ ∧ _ ∧ _ ∧ _ ∧ _ ∧ _ ∧ _ ∧ _ ∧ _ ∧ _ ∧ _ ∧ _ ∧ _ ∧ _ ∧ _ ∧ _ ∧ _ ∧ _ ∧ _ ∧ _ ∧ _ ∧ _ ∧ _ ∧ _ ∧ _ ∧ _ ∧ _ ∧ _ ∧ _ ∧ _ ∧ _ ∧ _ ∧ _ ∧ _ ∧ _ ∧ _ ∧ _ ∧ _ ∧ _ ∧ _ ∧ _ := ⟨hT 3, hT 4, hT 5, hT 6, hT 7, hT 8, hT 9, hT 10, hT 11, hT 12, hT 13, hT 43, hT 44, hT 45, hT 46, hT 49, hT 50, hT 51, hT 52, hT 53, hT 54, hT 55, hT 56, hT 57, hT 58, hT 59, hT 60, hT 61, hT 62, hT 63, hT 64, hT 65, hT 66, hT 67, hT 68, hT 69, hT 70, hT 71, hT 72, hT 73, hT 74, hT 75, hT 76, hT 77, hT 78, hT 79, hT 80, hT 81, hT 82, hT 83, hT 84, hT 85, hT 86, hT 87, hT 88⟩
     simp only [Fact.G, Nat.reduceEqDiff, Nat.reduceLT, reduceIte, hf.size, s3, s4, s5, s6, s7, s8, s9, s10, s11, s12, s13, s43, s44, s45, s46, s49, s50, s51, s52, s53, s54, s55, s56, s57, s58, s59, s60, s61, s62, s63] at hKp
     clear hT hf s3 s4 s5 s6 s7 s8 s9 s10 s11 s12 s13 s43 s44 s45 s46 s49 s50 s51 s52 s53 s54 s55 s56 s57 s58 s59 s60 s61 s62 s63 b64 b65 b66 b67 b68 b69 b70 b71 b72 b73 b74 b75 b76 b77 b78 b79 b80 b81 b82 b83 b84 b85 b86 b87
     obtain ⟨s3, s4, s5, s6, s7, s8, s9, s10, s11, s12, s13, s43, s44, s45, s46, s49, s50, s51, s52, s53, s54, s55, s56, s57, s58, s59, s60, s61, s62, s63, s64, s65, s66, s67, s68, s69, s70, s71, s72, s73, s74, s75, s76, s77, s78, s79, s80, s81, s82, s83, s84, s85, s86, s87, s88⟩ := hKp
     have hf := hf1; clear hf1
     refine Fact.then_normal ?_
     refine hK16 _ _ ?_
     try simp only [bne_self_eq_false] at s88
     refine Fact.cond_f s88 ?_
     refine wp_skip ?_
     refine Fact.then_normal ?_
     exact ⟨hf, s3, s4, s5, s6, s7, s8, s9, hb6⟩
    ·
     rw [hB] at s11 s13
     have hcn := d3 hB
     refine wp_seq_k (fun K17 hK17 => ?_)
     refine Fact.region ?_
     have b64 := hf.l 64 rfl
     have b65 := hf.l 65 rfl
     have b66 := hf.l 66 rfl
     have b67 := hf.l 67 rfl
     have b68 := hf.l 68 rfl
     have b69 := hf.l 69 rfl
     have b70 := hf.l 70 rfl
     have b71 := hf.l 71 rfl
     have b72 := hf.l 72 rfl
     have b73 := hf.l 73 rfl
     have b74 := hf.l 74 rfl
     have b75 := hf.l 75 rfl
     have b76 := hf.l 76 rfl
     have b77 := hf.l 77 rfl
     have b78 := hf.l 78 rfl
     have b79 := hf.l 79 rfl
     have b80 := hf.l 80 rfl
     have b81 := hf.l 81 rfl
     have b82 := hf.l 82 rfl
     have b83 := hf.l 83 rfl
     have b84 := hf.l 84 rfl
     have b85 := hf.l 85 rfl
     have b86 := hf.l 86 rfl
     have b87 := hf.l 87 rfl
     refine Fact.p rfl fun K hK => ?_
     go_simp
     refine hK.out _ _ ?_; clear hK K
     refine Fact.p rfl fun K hK => ?_
     go_simp
     refine hK.out _ _ ?_; clear hK K
     refine Fact.p rfl fun K hK => ?_
     go_simp
     refine hK.out _ _ ?_; clear hK K
     refine Fact.p rfl fun K hK => ?_
     go_simp
     refine hK.out _ _ ?_; clear hK K
     refine Fact.op_guard (g := 3) (d := 67) (b := false) rfl rfl rfl ?_ (fun K hK => ?_)
     ·
      simp only [Fact.G, Nat.reduceEqDiff, Nat.reduceLT, reduceIte, hf.size, bne_self_eq_false, Bool.not_true, Bool.not_false, hsz]
     go_simp
     refine hK.out _ _ ?_; clear hK K
     refine Fact.op_guard (g := 3) (d := 67) (b := false) rfl rfl rfl ?_ (fun K hK => ?_)
     ·
      simp only [Fact.G, Nat.reduceEqDiff, Nat.reduceLT, reduceIte, hf.size, bne_self_eq_false, Bool.not_true, Bool.not_false, hsz]
     go_simp
     refine hK.out _ _ ?_; clear hK K
     refine Fact.op_guard (g := 3) (d := 67) (b := false) rfl rfl rfl ?_ (fun K hK => ?_)
     ·
      simp only [Fact.G, Nat.reduceEqDiff, Nat.reduceLT, reduceIte, hf.size, bne_self_eq_false, Bool.not_true, Bool.not_false, hsz]
     go_simp
     refine hK.out _ _ ?_; clear hK K
     refine Fact.p rfl fun K hK => ?_
     go_simp
     refine hK.out _ _ ?_; clear hK K
     refine Fact.p rfl fun K hK => ?_
     go_simp
     refine hK.out _ _ ?_; clear hK K
     refine Fact.op_guard (g := 8) (d := 72) (b := false) rfl rfl rfl ?_ (fun K hK => ?_)
     ·
      simp only [Fact.G, Nat.reduceEqDiff, Nat.reduceLT, reduceIte, hf.size, bne_self_eq_false, Bool.not_true, Bool.not_false, hsz]
     go_simp
     refine hK.out _ _ ?_; clear hK K
     refine Fact.op_guard (g := 8) (d := 72) (b := false) rfl rfl rfl ?_ (fun K hK => ?_)
     ·
      simp only [Fact.G, Nat.reduceEqDiff, Nat.reduceLT, reduceIte, hf.size, bne_self_eq_false, Bool.not_true, Bool.not_false, hsz]
     go_simp
     refine hK.out _ _ ?_; clear hK K
     refine Fact.op_guard (g := 8) (d := 72) (b := false) rfl rfl rfl ?_ (fun K hK => ?_)
     ·
      simp only [Fact.G, Nat.reduceEqDiff, Nat.reduceLT, reduceIte, hf.size, bne_self_eq_false, Bool.not_true, Bool.not_false, hsz]
     go_simp
     refine hK.out _ _ ?_; clear hK K
     refine Fact.op_guard (g := 8) (d := 72) (b := false) rfl rfl rfl ?_ (fun K hK => ?_)
     ·
      simp only [Fact.G, Nat.reduceEqDiff, Nat.reduceLT, reduceIte, hf.size, bne_self_eq_false, Bool.not_true, Bool.not_false, hsz]
     go_simp
     refine hK.out _ _ ?_; clear hK K
     refine Fact.op_guard (g := 8) (d := 72) (b := false) rfl rfl rfl ?_ (fun K hK => ?_)
     ·
      simp only [Fact.G, Nat.reduceEqDiff, Nat.reduceLT, reduceIte, hf.size, bne_self_eq_false, Bool.not_true, Bool.not_false, hsz]
     go_simp
     try simp (disch := omega) only [Fact.wrap_i64, Fact.wrap_u8, Fact.wrap_u32, Fact.wrap_u64]
     refine hK.out _ _ ?_; clear hK K
     refine Fact.op_guard (g := 8) (d := 72) (b := false) rfl rfl rfl ?_ (fun K hK => ?_)
     ·
      simp only [Fact.G, Nat.reduceEqDiff, Nat.reduceLT, reduceIte, hf.size, bne_self_eq_false, Bool.not_true, Bool.not_false, hsz]
     go_simp
     refine hK.out _ _ ?_; clear hK K
     refine Fact.p rfl fun K hK => ?_
     go_simp
     refine hK.out _ _ ?_; clear hK K
     refine Fact.p rfl fun K hK => ?_
     go_simp
     refine hK.out _ _ ?_; clear hK K
     refine Fact.op_guard (g := 16) (d := 80) (b := false) rfl rfl rfl ?_ (fun K hK => ?_)
     ·
      simp only [Fact.G, Nat.reduceEqDiff, Nat.reduceLT, reduceIte, hf.size, bne_self_eq_false, Bool.not_true, Bool.not_false, hsz]
     go_simp
     refine hK.out _ _ ?_; clear hK K
     refine Fact.op_guard (g := 16) (d := 80) (b := false) rfl rfl rfl ?_ (fun K hK => ?_)
     ·
      simp only [Fact.G, Nat.reduceEqDiff, Nat.reduceLT, reduceIte, hf.size, bne_self_eq_false, Bool.not_true, Bool.not_false, hsz]
     go_simp
     refine hK.out _ _ ?_; clear hK K
     refine Fact.op_guard (g := 18) (d := 82) (b := true) rfl rfl rfl ?_ (fun K hK => ?_)
     ·
      simp only [Fact.G, Nat.reduceEqDiff, Nat.reduceLT, reduceIte, hf.size, bne_self_eq_false, Bool.not_true, Bool.not_false, hsz]
     go_simp
     refine hK.out _ _ ?_; clear hK K
     refine Fact.op_guard (g := 18) (d := 82) (b := true) rfl rfl rfl ?_ (fun K hK => ?_)
     ·
      simp only [Fact.G, Nat.reduceEqDiff, Nat.reduceLT, reduceIte, hf.size, bne_self_eq_false, Bool.not_true, Bool.not_false, hsz]
     go_simp
     refine hK.out _ _ ?_; clear hK K
     refine Fact.op_guard (g := 18) (d := 82) (b := true) rfl rfl rfl ?_ (fun K hK => ?_)
     ·
      simp only [Fact.G, Nat.reduceEqDiff, Nat.reduceLT, reduceIte, hf.size, bne_self_eq_false, Bool.not_true, Bool.not_false, hsz]
     go_simp
     go_at_call 21; refine (can21 w6 g q k hA6 S).mono ?_; rintro e w7 ⟨rfl, h7⟩
     rw [hcn]
     dsimp only
     refine hK.out _ _ ?_; clear hK K
     refine Fact.op_guard (g := 18) (d := 82) (b := true) rfl rfl rfl ?_ (fun K hK => ?_)
     ·
      simp only [Fact.G, Nat.reduceEqDiff, Nat.reduceLT, reduceIte, hf.size, bne_self_eq_false, Bool.not_true, Bool.not_false, hsz]
     go_simp
     refine hK.out _ _ ?_; clear hK K
     refine Fact.op_guard (g := 16) (d := 80) (b := false) rfl rfl rfl ?_ (fun K hK => ?_)
     ·
      simp only [Fact.G, Nat.reduceEqDiff, Nat.reduceLT, reduceIte, hf.size, bne_self_eq_false, Bool.not_true, Bool.not_false, hsz]
     go_simp
     refine hK.out _ _ ?_; clear hK K
     refine Fact.p rfl fun K hK => ?_
     go_simp
     refine hK.out _ _ ?_; clear hK K
     refine Fact.nil ?_
     refine Fact.reQ (n := 163) (by simp only [Fact.G, hf.size]) hf.defers (fun fr1 hf1 hT => ?_)
     have hKp : _ ∧ _ ∧ _ ∧ _ ∧ _ ∧ _ ∧ _ ∧ _ ∧ _ ∧ _ ∧ _ ∧ _ ∧ _ ∧ _ ∧ _ ∧ _ ∧ _ ∧ _ ∧ _ ∧ _ ∧ _ ∧ _ ∧ _ ∧ _ ∧ _ ∧ _ ∧ _ ∧ _ ∧ _ ∧ _ ∧ _ ∧ _ ∧ _ ∧ _ ∧ _ ∧ _ ∧ _ ∧ _ ∧ _ ∧ _ ∧ _ ∧ _ ∧ _ ∧ _ ∧ _ ∧ _ ∧ _ ∧ _ ∧ _ ∧ _ ∧ _ ∧ _ ∧ _ ∧ _ ∧ _ := ⟨hT 3, hT 4, hT 5, hT 6, hT 7, hT 8, hT 9, hT 10, hT 11, hT 12, hT 13, hT 43, hT 44, hT 45, hT 46, hT 49, hT 50, hT 51, hT 52, hT 53, hT 54, hT 55, hT 56, hT 57, hT 58, hT 59, hT 60, hT 61, hT 62, hT 63, hT 64, hT 65, hT 66, hT 67, hT 68, hT 69, hT 70, hT 71, hT 72, hT 73, hT 74, hT 75, hT 76, hT 77, hT 78, hT 79, hT 80, hT 81, hT 82, hT 83, hT 84, hT 85, hT 86, hT 87, hT 88⟩
     simp only [Fact.G, Nat.reduceEqDiff, Nat.reduceLT, reduceIte, hf.size, s3, s4, s5, s6, s7, s8, s9, s10, s11, s12, s13, s43, s44, s45, s46, s49, s50, s51, s52, s53, s54, s55, s56, s57, s58, s59, s60, s61, s62, s63] at hKp
     clear hT hf s3 s4 s5 s6 s7 s8 s9 s10 s11 s12 s13 s43 s44 s45 s46 s49 s50 s51 s52 s53 s54 s55 s56 s57 s58 s59 s60 s61 s62 s63 b64 b65 b66 b67 b68 b69 b70 b71 b72 b73 b74 b75 b76 b77 b78 b79 b80 b81 b82 b83 b84 b85 b86 b87
     obtain ⟨s3, s4, s5, s6, s7, s8, s9, s10, s11, s12, s13, s43, s44, s45, s46, s49, s50, s51, s52, s53, s54, s55, s56, s57, s58, s59, s60, s61, s62, s63, s64, s65, s66, s67, s68, s69, s70, s71, s72, s73, s74, s75, s76, s77, s78, s79, s80, s81, s82, s83, s84, s85, s86, s87, s88⟩ := hKp
     have hf := hf1; clear hf1
     refine Fact.then_normal ?_
     refine hK17 _ _ ?_
     try simp only [bne_self_eq_false] at s88
     refine Fact.cond_f s88 ?_
     refine wp_skip ?_
     refine Fact.then_normal ?_
     exact ⟨hf, s3, s4, s5, s6, s7, s8, s9, hb6.trans (h7.mono hb6.size)⟩
   ·
    clear hf s3 s4 s5 s6 s7 s8 s9 s10 s11 s12 s13 s43 s44 s45 s46 s49 s50 s51 s52 s53 s54 s55 s56 s57 s58 s59 s60 s61 s62 s63
    rintro fr wr3 ⟨hf, s3, s4, s5, s6, s7, s8, s9, hb7⟩
    refine wp_seq_k (fun K18 hK18 => ?_)
    refine wp_seq_k (fun K19 hK19 => ?_)
    refine Fact.region ?_
    refine Fact.p rfl fun K hK => ?_
    go_simp
    refine hK.out _ _ ?_; clear hK K
    refine Fact.nil ?_
    refine Fact.reQ (n := 163) (by simp only [Fact.G, hf.size]) hf.defers (fun fr1 hf1 hT => ?_)
    have hKp : _ ∧ _ ∧ _ ∧ _ ∧ _ ∧ _ ∧ _ ∧ _ := ⟨hT 3, hT 4, hT 5, hT 6, hT 7, hT 8, hT 9, hT 14⟩
    simp only [Fact.G, Nat.reduceEqDiff, Nat.reduceLT, reduceIte, hf.size, s3, s4, s5, s6, s7, s8, s9] at hKp
    clear hT hf s3 s4 s5 s6 s7 s8 s9
    obtain ⟨s3, s4, s5, s6, s7, s8, s9, s14⟩ := hKp
    have hf := hf1; clear hf1
    refine Fact.then_normal ?_
    refine hK19 _ _ ?_
    refine wp_block ?_
    refine wp_loop_ghost (fun g2 fr wr4 => ∃ n : Nat, g2 = q.size + 1 - n ∧ 1 ≤ n ∧ n ≤ q.size + 1 ∧ Fact.Fr 163 fr ∧ fr.tmps[3]? = some (.string q) ∧ fr.tmps[4]? = some (.string t) ∧ fr.tmps[5]? = some (.int .i64 k) ∧ fr.tmps[6]? = some (.pointer (some ⟨g, 0, none⟩)) ∧ fr.tmps[7]? = some (.pointer (some ⟨u, 0, none⟩)) ∧ fr.tmps[8]? = some (.string S) ∧ fr.tmps[9]? = some (.int .i64 i) ∧ fr.tmps[14]? = some (.int .i64 n) ∧ Below wr.heap.size wr wr4) (q.size) ?_ ?_
    ·
     exact ⟨1, rfl, Nat.le_refl _, by omega, hf, s3, s4, s5, s6, s7, s8, s9, s14, hb7⟩
    ·
     clear hf s3 s4 s5 s6 s7 s8 s9 s14
     rintro g2 fr wr4 ⟨n, hk2, hn1, hn, hf, s3, s4, s5, s6, s7, s8, s9, s14, hb8⟩
     have HK2 := Lib.hid hk2; clear hk2
     refine wp_seq_k (fun K20 hK20 => ?_)
     refine wp_seq_k (fun K21 hK21 => ?_)
     refine Fact.region ?_
     have b89 := hf.l 89 rfl
     have b90 := hf.l 90 rfl
     have b91 := hf.l 91 rfl
     refine Fact.p rfl fun K hK => ?_
     go_simp
     refine hK.out _ _ ?_; clear hK K
     refine Fact.p rfl fun K hK => ?_
     go_simp
     refine hK.out _ _ ?_; clear hK K
     refine Fact.p rfl fun K hK => ?_
     go_simp
     refine hK.out _ _ ?_; clear hK K
     refine Fact.p rfl fun K hK => ?_
     go_simp
     refine hK.out _ _ ?_; clear hK K
     refine Fact.nil ?_
     refine Fact.reQ (n := 163) (by simp only [Fact.G, hf.size]) hf.defers (fun fr1 hf1 hT => ?_)
     have hKp : _ ∧ _ ∧ _ ∧ _ ∧ _ ∧ _ ∧ _ ∧ _ ∧ _ ∧ _ ∧ _ ∧ _ := ⟨hT 3, hT 4, hT 5, hT 6, hT 7, hT 8, hT 9, hT 14, hT 89, hT 90, hT 91, hT 92⟩
     simp only [Fact.G, Nat.reduceEqDiff, Nat.reduceLT, reduceIte, hf.size, s3, s4, s5, s6, s7, s8, s9, s14] at hKp
     clear hT hf s3 s4 s5 s6 s7 s8 s9 s14 b89 b90 b91
     obtain ⟨s3, s4, s5, s6, s7, s8, s9, s14, s89, s90, s91, s92⟩ := hKp
     have hf := hf1; clear hf1
     refine Fact.then_normal ?_
     refine hK21 _ _ ?_
     refine Fact.cond_s s92 (fun hq2 => ?_) (fun hq2 => ?_)
     ·
      have hnq : n ≤ q.size := by have h9 := of_decide_eq_true hq2; omega
      obtain ⟨p, rfl⟩ : ∃ p, n = p + 1 := ⟨n - 1, by omega⟩
      obtain ⟨n1, n2, n3⟩ := state_near (t := t) (j := i) hk3 hnq
      rw [← HS.out] at n1 n2 n3
      have hat1 : ∀ (j : Nat) (h : j < S.size), S[j].toNat = at_ S j := fun j h => (at_get h).symm
      obtain ⟨A, hA⟩ : ∃ A, at_ S (p + 1) = A := ⟨_, rfl⟩
      obtain ⟨B, hB⟩ : ∃ B, at_ S p = B := ⟨_, rfl⟩
      rw [hA] at n1 n2 n3; rw [hB] at n1 n2
      have e3 : IntKind.i64.wrap (A : Int) = (A : Int) := Fact.wrap_i64 (by omega) (by omega)
      have e4 : IntKind.i64.wrap (B : Int) = (B : Int) := Fact.wrap_i64 (by omega) (by omega)
      have e5 : IntKind.i64.wrap ((p : Int) + 1 - 1) = (p : Int) := by rw [Fact.wrap_i64 (by omega) (by omega)]; omega
      have q1 : decide ((B : Int) + 1 < (A : Int)) = false := decide_eq_false (by omega)
      have q2 : decide ((A : Int) + 1 < (B : Int)) = false := decide_eq_false (by omega)
      have q3 : decide ((k : Int) + 1 < (A : Int)) = false := decide_eq_false (by omega)
      have N9 := Lib.hid (show 0 ≤ (0:Nat) from Nat.le_refl _)
      refine wp_skip ?_
      refine Fact.then_normal ?_
      refine hK20 _ _ ?_
      refine wp_seq_k (fun K22 hK22 => ?_)
      refine wp_block ?_
      refine wp_seq_k (fun K23 hK23 => ?_)
      refine Stab.todo_begin (n := 163) (Stab.OkOps.of (by kernel_rfl)) (fun hok => ?_)
      refine Stab.mvO (k := 0) s8 hf.size hok.out rfl rfl rfl (.inl rfl) (by kernel_rfl) ?_
      refine Stab.mvO (k := 1) s14 hf.size hok.out rfl rfl rfl (.inl rfl) (by kernel_rfl) ?_
      apply Stab.t 2 _ hf.size hok.out rfl
      ·
       intro fr1 w1 hh hd hk K hK
       refine Stab.op_plain (o := _) rfl rfl ?_
       have s95 := Stab.u 0 1 hd hk rfl [] (by kernel_rfl) rfl rfl rfl
       have s96 := Stab.u 1 0 hd hk rfl [] (by kernel_rfl) rfl rfl rfl
       clear hd
       go_simp
       try rw [if_pos (by omega)]
       try rw [hat1]
       try simp only [hA, hB]
       exact hK.out _ rfl _ _ (Below.refl _ _) rfl
      apply Stab.t 3 _ hf.size hok.out rfl
      ·
       intro fr1 w1 hh hd hk K hK
       refine Stab.op_plain (o := _) rfl rfl ?_
       have s97 := Stab.u 2 0 hd hk rfl [] (by kernel_rfl) rfl rfl rfl
       clear hd
       go_simp
       exact hK.out _ rfl _ _ (Below.refl _ _) rfl
      refine Stab.mvO (k := 4) s8 hf.size hok.out rfl rfl rfl (.inl rfl) (by kernel_rfl) ?_
      refine Stab.mvO (k := 5) s14 hf.size hok.out rfl rfl rfl (.inl rfl) (by kernel_rfl) ?_
      apply Stab.t 6 _ hf.size hok.out rfl
      ·
       intro fr1 w1 hh hd hk K hK
       refine Stab.op_plain (o := _) rfl rfl ?_
       have s100 := Stab.u 5 0 hd hk rfl [] (by kernel_rfl) rfl rfl rfl
       clear hd
       go_simp
       try simp (disch := omega) only [Fact.wrap_i64, Fact.wrap_u8, Fact.wrap_u32, Fact.wrap_u64]
       exact hK.out _ rfl _ _ (Below.refl _ _) rfl
      apply Stab.t 7 _ hf.size hok.out rfl
      ·
       intro fr1 w1 hh hd hk K hK
       refine Stab.op_plain (o := _) rfl rfl ?_
       have s99 := Stab.u 4 2 hd hk rfl [] (by kernel_rfl) rfl rfl rfl
       have s101 := Stab.u 6 0 hd hk rfl [] (by kernel_rfl) rfl rfl rfl
       clear hd
       go_simp
       try rw [if_pos (by omega)]
       try rw [hat1]
       try simp only [hA, hB]
       exact hK.out _ rfl _ _ (Below.refl _ _) rfl
      apply Stab.t 8 _ hf.size hok.out rfl
      ·
       intro fr1 w1 hh hd hk K hK
       refine Stab.op_plain (o := _) rfl rfl ?_
       have s102 := Stab.u 7 0 hd hk rfl [] (by kernel_rfl) rfl rfl rfl
       clear hd
       go_simp
       exact hK.out _ rfl _ _ (Below.refl _ _) rfl
      apply Stab.t 9 _ hf.size hok.out rfl
      ·
       intro fr1 w1 hh hd hk K hK
       refine Stab.op_plain (o := _) rfl rfl ?_
       have s103 := Stab.u 8 0 hd hk rfl [] (by kernel_rfl) rfl rfl rfl
       clear hd
       go_simp
       try simp (disch := omega) only [Fact.wrap_i64, Fact.wrap_u8, Fact.wrap_u32, Fact.wrap_u64]
       exact hK.out _ rfl _ _ (Below.refl _ _) rfl
      apply Stab.t 10 _ hf.size hok.out rfl
      ·
       intro fr1 w1 hh hd hk K hK
       refine Stab.op_plain (o := _) rfl rfl ?_
       have s98 := Stab.u 3 6 hd hk rfl [] (by kernel_rfl) rfl rfl rfl
       have s104 := Stab.u 9 0 hd hk rfl [] (by kernel_rfl) rfl rfl rfl
       clear hd
       go_simp
       try simp only [q1, q2, q3]
       exact hK.out _ rfl _ _ (Below.refl _ _) rfl
      refine Stab.mvN (k := 11) (j := 10) (m := 0) hf.size hok.out rfl rfl rfl (.inl rfl) rfl [] (by kernel_rfl) rfl rfl rfl ?_
      apply Stab.t 12 _ hf.size hok.out rfl
      ·
       intro fr1 w1 hh hd hk K hK
       have s106 := Stab.u 11 0 hd hk rfl [] (by kernel_rfl) rfl rfl rfl
       refine Stab.op_guard (o := _) rfl rfl rfl rfl s106 ?_
       have s8 := Stab.o hh (by kernel_rfl) s8
       clear hd
       go_simp
       exact hK.out _ rfl _ _ (Below.refl _ _) rfl
      apply Stab.t 13 _ hf.size hok.out rfl
      ·
       intro fr1 w1 hh hd hk K hK
       have s106 := Stab.u 11 1 hd hk rfl [] (by kernel_rfl) rfl rfl rfl
       refine Stab.op_guard (o := _) rfl rfl rfl rfl s106 ?_
       have s14 := Stab.o hh (by kernel_rfl) s14
       clear hd
       go_simp
       exact hK.out _ rfl _ _ (Below.refl _ _) rfl
      apply Stab.t 14 _ hf.size hok.out rfl
      ·
       intro fr1 w1 hh hd hk K hK
       have s106 := Stab.u 11 2 hd hk rfl [] (by kernel_rfl) rfl rfl rfl
       refine Stab.op_guard (o := _) rfl rfl rfl rfl s106 ?_
       have s108 := Stab.u 13 0 hd hk rfl [] (by kernel_rfl) rfl rfl rfl
       clear hd
       go_simp
       try simp (disch := omega) only [Fact.wrap_i64, Fact.wrap_u8, Fact.wrap_u32, Fact.wrap_u64]
       exact hK.out _ rfl _ _ (Below.refl _ _) rfl
      apply Stab.t 15 _ hf.size hok.out rfl
      ·
       intro fr1 w1 hh hd hk K hK
       have s106 := Stab.u 11 3 hd hk rfl [] (by kernel_rfl) rfl rfl rfl
       refine Stab.op_guard (o := _) rfl rfl rfl rfl s106 ?_
       have s107 := Stab.u 12 2 hd hk rfl [] (by kernel_rfl) rfl rfl rfl
       have s109 := Stab.u 14 0 hd hk rfl [] (by kernel_rfl) rfl rfl rfl
       clear hd
       go_simp
       try rw [if_pos (by omega)]
       try rw [hat1]
       try simp only [hA, hB]
       exact hK.out _ rfl _ _ (Below.refl _ _) rfl
      apply Stab.t 16 _ hf.size hok.out rfl
      ·
       intro fr1 w1 hh hd hk K hK
       have s106 := Stab.u 11 4 hd hk rfl [] (by kernel_rfl) rfl rfl rfl
       refine Stab.op_guard (o := _) rfl rfl rfl rfl s106 ?_
       have s110 := Stab.u 15 0 hd hk rfl [] (by kernel_rfl) rfl rfl rfl
       clear hd
       go_simp
       exact hK.out _ rfl _ _ (Below.refl _ _) rfl
      apply Stab.t 17 _ hf.size hok.out rfl
      ·
       intro fr1 w1 hh hd hk K hK
       have s106 := Stab.u 11 5 hd hk rfl [] (by kernel_rfl) rfl rfl rfl
       refine Stab.op_guard (o := _) rfl rfl rfl rfl s106 ?_
       have s8 := Stab.o hh (by kernel_rfl) s8
       clear hd
       go_simp
       exact hK.out _ rfl _ _ (Below.refl _ _) rfl
      apply Stab.t 18 _ hf.size hok.out rfl
      ·
       intro fr1 w1 hh hd hk K hK
       have s106 := Stab.u 11 6 hd hk rfl [] (by kernel_rfl) rfl rfl rfl
       refine Stab.op_guard (o := _) rfl rfl rfl rfl s106 ?_
       have s14 := Stab.o hh (by kernel_rfl) s14
       clear hd
       go_simp
       exact hK.out _ rfl _ _ (Below.refl _ _) rfl
      apply Stab.t 19 _ hf.size hok.out rfl
      ·
       intro fr1 w1 hh hd hk K hK
       have s106 := Stab.u 11 7 hd hk rfl [] (by kernel_rfl) rfl rfl rfl
       refine Stab.op_guard (o := _) rfl rfl rfl rfl s106 ?_
       have s112 := Stab.u 17 1 hd hk rfl [] (by kernel_rfl) rfl rfl rfl
       have s113 := Stab.u 18 0 hd hk rfl [] (by kernel_rfl) rfl rfl rfl
       clear hd
       go_simp
       try rw [if_pos (by omega)]
       try rw [hat1]
       try simp only [hA, hB]
       exact hK.out _ rfl _ _ (Below.refl _ _) rfl
      apply Stab.t 20 _ hf.size hok.out rfl
      ·
       intro fr1 w1 hh hd hk K hK
       have s106 := Stab.u 11 8 hd hk rfl [] (by kernel_rfl) rfl rfl rfl
       refine Stab.op_guard (o := _) rfl rfl rfl rfl s106 ?_
       have s114 := Stab.u 19 0 hd hk rfl [] (by kernel_rfl) rfl rfl rfl
       clear hd
       go_simp
       exact hK.out _ rfl _ _ (Below.refl _ _) rfl
      apply Stab.t 21 _ hf.size hok.out rfl
      ·
       intro fr1 w1 hh hd hk K hK
       have s106 := Stab.u 11 9 hd hk rfl [] (by kernel_rfl) rfl rfl rfl
       refine Stab.op_guard (o := _) rfl rfl rfl rfl s106 ?_
       have s115 := Stab.u 20 0 hd hk rfl [] (by kernel_rfl) rfl rfl rfl
       clear hd
       go_simp
       try simp (disch := omega) only [Fact.wrap_i64, Fact.wrap_u8, Fact.wrap_u32, Fact.wrap_u64]
       exact hK.out _ rfl _ _ (Below.refl _ _) rfl
      apply Stab.t 22 _ hf.size hok.out rfl
      ·
       intro fr1 w1 hh hd hk K hK
       have s106 := Stab.u 11 10 hd hk rfl [] (by kernel_rfl) rfl rfl rfl
       refine Stab.op_guard (o := _) rfl rfl rfl rfl s106 ?_
       have s111 := Stab.u 16 5 hd hk rfl [] (by kernel_rfl) rfl rfl rfl
       have s116 := Stab.u 21 0 hd hk rfl [] (by kernel_rfl) rfl rfl rfl
       clear hd
       go_simp
       try simp only [q1, q2, q3]
       exact hK.out _ rfl _ _ (Below.refl _ _) rfl
      apply Stab.t 23 _ hf.size hok.out rfl
      ·
       intro fr1 w1 hh hd hk K hK
       refine Stab.op_plain (o := _) rfl rfl ?_
       have s106 := Stab.u 11 11 hd hk rfl [] (by kernel_rfl) rfl rfl rfl
       have s117 := Stab.u 22 0 hd hk rfl [] (by kernel_rfl) rfl rfl rfl
       clear hd
       go_simp
       exact hK.out _ rfl _ _ (Below.refl _ _) rfl
      refine Stab.mvN (k := 24) (j := 23) (m := 0) hf.size hok.out rfl rfl rfl (.inl rfl) rfl [] (by kernel_rfl) rfl rfl rfl ?_
      apply Stab.t 25 _ hf.size hok.out rfl
      ·
       intro fr1 w1 hh hd hk K hK
       have s119 := Stab.u 24 0 hd hk rfl [] (by kernel_rfl) rfl rfl rfl
       refine Stab.op_guard (o := _) rfl rfl rfl rfl s119 ?_
       have s8 := Stab.o hh (by kernel_rfl) s8
       clear hd
       go_simp
       exact hK.out _ rfl _ _ (Below.refl _ _) rfl
      apply Stab.t 26 _ hf.size hok.out rfl
      ·
       intro fr1 w1 hh hd hk K hK
       have s119 := Stab.u 24 1 hd hk rfl [] (by kernel_rfl) rfl rfl rfl
       refine Stab.op_guard (o := _) rfl rfl rfl rfl s119 ?_
       have s14 := Stab.o hh (by kernel_rfl) s14
       clear hd
       go_simp
       exact hK.out _ rfl _ _ (Below.refl _ _) rfl
      apply Stab.t 27 _ hf.size hok.out rfl
      ·
       intro fr1 w1 hh hd hk K hK
       have s119 := Stab.u 24 2 hd hk rfl [] (by kernel_rfl) rfl rfl rfl
       refine Stab.op_guard (o := _) rfl rfl rfl rfl s119 ?_
       have s120 := Stab.u 25 1 hd hk rfl [] (by kernel_rfl) rfl rfl rfl
       have s121 := Stab.u 26 0 hd hk rfl [] (by kernel_rfl) rfl rfl rfl
       clear hd
       go_simp
       try rw [if_pos (by omega)]
       try rw [hat1]
       try simp only [hA, hB]
       exact hK.out _ rfl _ _ (Below.refl _ _) rfl
      apply Stab.t 28 _ hf.size hok.out rfl
      ·
       intro fr1 w1 hh hd hk K hK
       have s119 := Stab.u 24 3 hd hk rfl [] (by kernel_rfl) rfl rfl rfl
       refine Stab.op_guard (o := _) rfl rfl rfl rfl s119 ?_
       have s122 := Stab.u 27 0 hd hk rfl [] (by kernel_rfl) rfl rfl rfl
       clear hd
       go_simp
       exact hK.out _ rfl _ _ (Below.refl _ _) rfl
      apply Stab.t 29 _ hf.size hok.out rfl
      ·
       intro fr1 w1 hh hd hk K hK
       have s119 := Stab.u 24 4 hd hk rfl [] (by kernel_rfl) rfl rfl rfl
       refine Stab.op_guard (o := _) rfl rfl rfl rfl s119 ?_
       have s5 := Stab.o hh (by kernel_rfl) s5
       clear hd
       go_simp
       exact hK.out _ rfl _ _ (Below.refl _ _) rfl
      apply Stab.t 30 _ hf.size hok.out rfl
      ·
       intro fr1 w1 hh hd hk K hK
       have s119 := Stab.u 24 5 hd hk rfl [] (by kernel_rfl) rfl rfl rfl
       refine Stab.op_guard (o := _) rfl rfl rfl rfl s119 ?_
       have s124 := Stab.u 29 0 hd hk rfl [] (by kernel_rfl) rfl rfl rfl
       clear hd
       go_simp
       try simp (disch := omega) only [Fact.wrap_i64, Fact.wrap_u8, Fact.wrap_u32, Fact.wrap_u64]
       exact hK.out _ rfl _ _ (Below.refl _ _) rfl
      apply Stab.t 31 _ hf.size hok.out rfl
      ·
       intro fr1 w1 hh hd hk K hK
       have s119 := Stab.u 24 6 hd hk rfl [] (by kernel_rfl) rfl rfl rfl
       refine Stab.op_guard (o := _) rfl rfl rfl rfl s119 ?_
       have s123 := Stab.u 28 2 hd hk rfl [] (by kernel_rfl) rfl rfl rfl
       have s125 := Stab.u 30 0 hd hk rfl [] (by kernel_rfl) rfl rfl rfl
       clear hd
       go_simp
       try simp only [q1, q2, q3]
       exact hK.out _ rfl _ _ (Below.refl _ _) rfl
      apply Stab.t 32 _ hf.size hok.out rfl
      ·
       intro fr1 w1 hh hd hk K hK
       refine Stab.op_plain (o := _) rfl rfl ?_
       have s119 := Stab.u 24 7 hd hk rfl [] (by kernel_rfl) rfl rfl rfl
       have s126 := Stab.u 31 0 hd hk rfl [] (by kernel_rfl) rfl rfl rfl
       clear hd
       go_simp
       exact hK.out _ rfl _ _ (Below.refl _ _) rfl
      refine Stab.todo_facts (n := 163) (by kernel_rfl) hf.size hok.out rfl (fun fr1 w1 hh hg => ?_)
      replace s3 := Stab.o hh (by kernel_rfl) s3
      replace s4 := Stab.o hh (by kernel_rfl) s4
      replace s5 := Stab.o hh (by kernel_rfl) s5
      replace s6 := Stab.o hh (by kernel_rfl) s6
      replace s7 := Stab.o hh (by kernel_rfl) s7
      replace s8 := Stab.o hh (by kernel_rfl) s8
      replace s9 := Stab.o hh (by kernel_rfl) s9
      replace s14 := Stab.o hh (by kernel_rfl) s14
      replace s89 := Stab.o hh (by kernel_rfl) s89
      replace s90 := Stab.o hh (by kernel_rfl) s90
      replace s91 := Stab.o hh (by kernel_rfl) s91
      replace s92 := Stab.o hh (by kernel_rfl) s92
      have s95 := Stab.e 0 32 hg rfl rfl rfl rfl
      have s96 := Stab.e 1 31 hg rfl rfl rfl rfl
      have s97 := Stab.e 2 30 hg rfl rfl rfl rfl
      have s98 := Stab.e 3 29 hg rfl rfl rfl rfl
      have s99 := Stab.e 4 28 hg rfl rfl rfl rfl
      have s100 := Stab.e 5 27 hg rfl rfl rfl rfl
      have s101 := Stab.e 6 26 hg rfl rfl rfl rfl
      have s102 := Stab.e 7 25 hg rfl rfl rfl rfl
      have s103 := Stab.e 8 24 hg rfl rfl rfl rfl
      have s104 := Stab.e 9 23 hg rfl rfl rfl rfl
      have s105 := Stab.e 10 22 hg rfl rfl rfl rfl
      have s106 := Stab.e 11 21 hg rfl rfl rfl rfl
      have s107 := Stab.e 12 20 hg rfl rfl rfl rfl
      have s108 := Stab.e 13 19 hg rfl rfl rfl rfl
      have s109 := Stab.e 14 18 hg rfl rfl rfl rfl
      have s110 := Stab.e 15 17 hg rfl rfl rfl rfl
      have s111 := Stab.e 16 16 hg rfl rfl rfl rfl
      have s112 := Stab.e 17 15 hg rfl rfl rfl rfl
      have s113 := Stab.e 18 14 hg rfl rfl rfl rfl
      have s114 := Stab.e 19 13 hg rfl rfl rfl rfl
      have s115 := Stab.e 20 12 hg rfl rfl rfl rfl
      have s116 := Stab.e 21 11 hg rfl rfl rfl rfl
      have s117 := Stab.e 22 10 hg rfl rfl rfl rfl
      have s118 := Stab.e 23 9 hg rfl rfl rfl rfl
      have s119 := Stab.e 24 8 hg rfl rfl rfl rfl
      have s120 := Stab.e 25 7 hg rfl rfl rfl rfl
      have s121 := Stab.e 26 6 hg rfl rfl rfl rfl
      have s122 := Stab.e 27 5 hg rfl rfl rfl rfl
      have s123 := Stab.e 28 4 hg rfl rfl rfl rfl
      have s124 := Stab.e 29 3 hg rfl rfl rfl rfl
      have s125 := Stab.e 30 2 hg rfl rfl rfl rfl
      have s126 := Stab.e 31 1 hg rfl rfl rfl rfl
      have s127 := Stab.e 32 0 hg rfl rfl rfl rfl
      have hf1 : Fact.Fr 163 fr1 := ⟨hh.size.trans hf.size, hh.defers.trans hf.defers⟩
      have hx := hh.ext
      clear hg hh hf hok 
      have hf := hf1; clear hf1
      refine Fact.then_normal ?_
      refine hK23 _ _ ?_
      try simp at s117
      refine Fact.cond_f s127 ?_
      refine wp_skip ?_
      refine Fact.block_normal ?_
      refine Fact.then_normal ?_
      refine hK22 _ _ ?_
      refine Fact.region ?_
      have b93 := hf.l 93 rfl
      have b94 := hf.l 94 rfl
      refine Fact.p rfl fun K hK => ?_
      go_simp
      refine hK.out _ _ ?_; clear hK K
      refine Fact.p rfl fun K hK => ?_
      go_simp
      try simp (disch := omega) only [Fact.wrap_i64, Fact.wrap_u8, Fact.wrap_u32, Fact.wrap_u64]
      refine hK.out _ _ ?_; clear hK K
      refine Fact.p rfl fun K hK => ?_
      go_simp
      refine hK.out _ _ ?_; clear hK K
      refine Fact.nil ?_
      refine Fact.reQ (n := 163) (by simp only [Fact.G, hf.size]) hf.defers (fun fr1 hf1 hT => ?_)
      have hKp : _ ∧ _ ∧ _ ∧ _ ∧ _ ∧ _ ∧ _ ∧ _ ∧ _ ∧ _ ∧ _ ∧ _ ∧ _ ∧ _ ∧ _ ∧ _ ∧ _ ∧ _ ∧ _ ∧ _ ∧ _ ∧ _ ∧ _ ∧ _ ∧ _ ∧ _ ∧ _ ∧ _ ∧ _ ∧ _ ∧ _ ∧ _ ∧ _ ∧ _ ∧ _ ∧ _ ∧ _ ∧ _ ∧ _ ∧ _ ∧ _ ∧ _ ∧ _ ∧ _ ∧ _ ∧ _ ∧ _ := ⟨hT 3, hT 4, hT 5, hT 6, hT 7, hT 8, hT 9, hT 14, hT 89, hT 90, hT 91, hT 92, hT 93, hT 94, hT 95, hT 96, hT 97, hT 98, hT 99, hT 100, hT 101, hT 102, hT 103, hT 104, hT 105, hT 106, hT 107, hT 108, hT 109, hT 110, hT 111, hT 112, hT 113, hT 114, hT 115, hT 116, hT 117, hT 118, hT 119, hT 120, hT 121, hT 122, hT 123, hT 124, hT 125, hT 126, hT 127⟩
      simp only [Fact.G, Nat.reduceEqDiff, Nat.reduceLT, reduceIte, hf.size, s3, s4, s5, s6, s7, s8, s9, s89, s90, s91, s92, s95, s96, s97, s98, s99, s100, s101, s102, s103, s104, s105, s106, s107, s108, s109, s110, s111, s112, s113, s114, s115, s116, s117, s118, s119, s120, s121, s122, s123, s124, s125, s126, s127] at hKp
      clear hT hf s3 s4 s5 s6 s7 s8 s9 s14 s89 s90 s91 s92 s95 s96 s97 s98 s99 s100 s101 s102 s103 s104 s105 s106 s107 s108 s109 s110 s111 s112 s113 s114 s115 s116 s117 s118 s119 s120 s121 s122 s123 s124 s125 s126 s127 b93 b94
      obtain ⟨s3, s4, s5, s6, s7, s8, s9, s14, s89, s90, s91, s92, s93, s94, s95, s96, s97, s98, s99, s100, s101, s102, s103, s104, s105, s106, s107, s108, s109, s110, s111, s112, s113, s114, s115, s116, s117, s118, s119, s120, s121, s122, s123, s124, s125, s126, s127⟩ := hKp
      have hf := hf1; clear hf1
      refine Fact.then_normal ?_
      exact ⟨_, by have := HK2.out; omega, p + 1 + 1, rfl, by omega, by omega, hf, s3, s4, s5, s6, s7, s8, s9, by rw [s14]; rfl, hb8.trans (hx.mono hb8.size)⟩
     ·
      have hne : n = q.size + 1 := by have h9 := of_decide_eq_false hq2; omega
      refine wp_exit ?_
      refine Fact.then_exit ?_
      refine Fact.then_exit ?_
      refine Fact.block_exit ?_
      refine Fact.then_normal ?_
      refine hK18 _ _ ?_
      refine wp_seq_k (fun K24 hK24 => ?_)
      refine Fact.region ?_
      have b128 := hf.l 128 rfl
      have b129 := hf.l 129 rfl
      have b130 := hf.l 130 rfl
      refine Fact.p rfl fun K hK => ?_
      go_simp
      refine hK.out _ _ ?_; clear hK K
      refine Fact.p rfl fun K hK => ?_
      go_simp
      refine hK.out _ _ ?_; clear hK K
      refine Fact.p rfl fun K hK => ?_
      go_simp
      refine hK.out _ _ ?_; clear hK K
      refine Fact.p rfl fun K hK => ?_
      go_simp
      refine hK.out _ _ ?_; clear hK K
      refine Fact.nil ?_
      refine Fact.reQ (n := 163) (by simp only [Fact.G, hf.size]) hf.defers (fun fr1 hf1 hT => ?_)
      have hKp : _ ∧ _ ∧ _ ∧ _ ∧ _ ∧ _ ∧ _ ∧ _ ∧ _ ∧ _ ∧ _ ∧ _ ∧ _ ∧ _ ∧ _ ∧ _ := ⟨hT 3, hT 4, hT 5, hT 6, hT 7, hT 8, hT 9, hT 14, hT 89, hT 90, hT 91, hT 92, hT 128, hT 129, hT 130, hT 131⟩
      simp only [Fact.G, Nat.reduceEqDiff, Nat.reduceLT, reduceIte, hf.size, s3, s4, s5, s6, s7, s8, s9, s14, s89, s90, s91, s92] at hKp
      clear hT hf s3 s4 s5 s6 s7 s8 s9 s14 s89 s90 s91 s92 b128 b129 b130
      obtain ⟨s3, s4, s5, s6, s7, s8, s9, s14, s89, s90, s91, s92, s128, s129, s130, s131⟩ := hKp
      have hf := hf1; clear hf1
      refine Fact.then_normal ?_
      refine hK24 _ _ ?_
      refine Fact.cond_s s131 (fun hq3 => ?_) (fun hq3 => ?_)
      ·
       have hlt : i < t.size := by have h9 := of_decide_eq_true hq3; omega
       have hat3 : ∀ (j : Nat) (h : j < t.size), t[j].toNat = at_ t j := fun j h => (at_get h).symm
       refine Fact.region ?_
       have b132 := hf.l 132 rfl
       have b133 := hf.l 133 rfl
       have b134 := hf.l 134 rfl
       have b135 := hf.l 135 rfl
       have b136 := hf.l 136 rfl
       have b137 := hf.l 137 rfl
       refine Fact.p rfl fun K hK => ?_
       go_simp
       refine hK.out _ _ ?_; clear hK K
       refine Fact.p rfl fun K hK => ?_
       go_simp
       refine hK.out _ _ ?_; clear hK K
       refine Fact.p rfl fun K hK => ?_
       go_simp
       refine hK.out _ _ ?_; clear hK K
       refine Fact.p rfl fun K hK => ?_
       go_simp
       refine hK.out _ _ ?_; clear hK K
       refine Fact.p rfl fun K hK => ?_
       go_simp
       try rw [if_pos (by omega)]
       refine hK.out _ _ ?_; clear hK K
       refine Fact.p rfl fun K hK => ?_
       go_simp
       go_at_call 16; refine (step16 wr4 g q k (hAr.later hb8) S (at_ t i)).mono ?_; rintro e w10 ⟨rfl, h10⟩
       dsimp only
       refine hK.out _ _ ?_; clear hK K
       refine Fact.p rfl fun K hK => ?_
       go_simp
       refine hK.out _ _ ?_; clear hK K
       refine Fact.nil ?_
       refine Fact.reQ (n := 163) (by simp only [Fact.G, hf.size]) hf.defers (fun fr1 hf1 hT => ?_)
       have hKp : _ ∧ _ ∧ _ ∧ _ ∧ _ ∧ _ ∧ _ ∧ _ ∧ _ ∧ _ ∧ _ ∧ _ ∧ _ ∧ _ ∧ _ ∧ _ ∧ _ ∧ _ ∧ _ ∧ _ ∧ _ ∧ _ := ⟨hT 3, hT 4, hT 5, hT 6, hT 7, hT 8, hT 9, hT 14, hT 89, hT 90, hT 91, hT 92, hT 128, hT 129, hT 130, hT 131, hT 132, hT 133, hT 134, hT 135, hT 136, hT 137⟩
       simp only [Fact.G, Nat.reduceEqDiff, Nat.reduceLT, reduceIte, hf.size, s3, s4, s5, s6, s7, s9, s14, s89, s90, s91, s92, s128, s129, s130, s131] at hKp
       clear hT hf s3 s4 s5 s6 s7 s8 s9 s14 s89 s90 s91 s92 s128 s129 s130 s131 b132 b133 b134 b135 b136 b137
       obtain ⟨s3, s4, s5, s6, s7, s8, s9, s14, s89, s90, s91, s92, s128, s129, s130, s131, s132, s133, s134, s135, s136, s137⟩ := hKp
       have hf := hf1; clear hf1
       refine Fact.block_normal ?_
       refine Fact.then_normal ?_
       refine hK13 _ _ ?_
       refine Fact.region ?_
       have b47 := hf.l 47 rfl
       have b48 := hf.l 48 rfl
       refine Fact.p rfl fun K hK => ?_
       go_simp
       refine hK.out _ _ ?_; clear hK K
       refine Fact.p rfl fun K hK => ?_
       go_simp
       try simp (disch := omega) only [Fact.wrap_i64, Fact.wrap_u8, Fact.wrap_u32, Fact.wrap_u64]
       refine hK.out _ _ ?_; clear hK K
       refine Fact.p rfl fun K hK => ?_
       go_simp
       refine hK.out _ _ ?_; clear hK K
       refine Fact.nil ?_
       refine Fact.reQ (n := 163) (by simp only [Fact.G, hf.size]) hf.defers (fun fr1 hf1 hT => ?_)
       have hKp : _ ∧ _ ∧ _ ∧ _ ∧ _ ∧ _ ∧ _ ∧ _ ∧ _ ∧ _ ∧ _ ∧ _ ∧ _ ∧ _ ∧ _ ∧ _ ∧ _ ∧ _ ∧ _ ∧ _ ∧ _ ∧ _ ∧ _ ∧ _ := ⟨hT 3, hT 4, hT 5, hT 6, hT 7, hT 8, hT 9, hT 14, hT 47, hT 48, hT 89, hT 90, hT 91, hT 92, hT 128, hT 129, hT 130, hT 131, hT 132, hT 133, hT 134, hT 135, hT 136, hT 137⟩
       simp only [Fact.G, Nat.reduceEqDiff, Nat.reduceLT, reduceIte, hf.size, s3, s4, s5, s6, s7, s8, s14, s89, s90, s91, s92, s128, s129, s130, s131, s132, s133, s134, s135, s136, s137] at hKp
       clear hT hf s3 s4 s5 s6 s7 s8 s9 s14 s89 s90 s91 s92 s128 s129 s130 s131 s132 s133 s134 s135 s136 s137 b47 b48
       obtain ⟨s3, s4, s5, s6, s7, s8, s9, s14, s47, s48, s89, s90, s91, s92, s128, s129, s130, s131, s132, s133, s134, s135, s136, s137⟩ := hKp
       have hf := hf1; clear hf1
       refine Fact.then_normal ?_
       exact ⟨_, by have := HK.out; omega, i + 1, _, rfl, by omega, by rw [show min (i + 1) t.size = i + 1 by omega, HS.out]; rfl, hf, s3, s4, s5, s6, s7, s8, s9, hbr.trans ((hb8.trans (h10.mono hb8.size)).mono hbr.size)⟩
      ·
       have hnl : ¬ i < t.size := by have h9 := of_decide_eq_false hq3; omega
       refine wp_skip ?_
       refine Fact.block_normal ?_
       refine Fact.then_normal ?_
       refine hK13 _ _ ?_
       refine Fact.region ?_
       have b47 := hf.l 47 rfl
       have b48 := hf.l 48 rfl
       refine Fact.p rfl fun K hK => ?_
       go_simp
       refine hK.out _ _ ?_; clear hK K
       refine Fact.p rfl fun K hK => ?_
       go_simp
       try simp (disch := omega) only [Fact.wrap_i64, Fact.wrap_u8, Fact.wrap_u32, Fact.wrap_u64]
       refine hK.out _ _ ?_; clear hK K
       refine Fact.p rfl fun K hK => ?_
       go_simp
       refine hK.out _ _ ?_; clear hK K
       refine Fact.nil ?_
       refine Fact.reQ (n := 163) (by simp only [Fact.G, hf.size]) hf.defers (fun fr1 hf1 hT => ?_)
       have hKp : _ ∧ _ ∧ _ ∧ _ ∧ _ ∧ _ ∧ _ ∧ _ ∧ _ ∧ _ ∧ _ ∧ _ ∧ _ ∧ _ ∧ _ ∧ _ ∧ _ ∧ _ := ⟨hT 3, hT 4, hT 5, hT 6, hT 7, hT 8, hT 9, hT 14, hT 47, hT 48, hT 89, hT 90, hT 91, hT 92, hT 128, hT 129, hT 130, hT 131⟩
       simp only [Fact.G, Nat.reduceEqDiff, Nat.reduceLT, reduceIte, hf.size, s3, s4, s5, s6, s7, s8, s14, s89, s90, s91, s92, s128, s129, s130, s131] at hKp
       clear hT hf s3 s4 s5 s6 s7 s8 s9 s14 s89 s90 s91 s92 s128 s129 s130 s131 b47 b48
       obtain ⟨s3, s4, s5, s6, s7, s8, s9, s14, s47, s48, s89, s90, s91, s92, s128, s129, s130, s131⟩ := hKp
       have hf := hf1; clear hf1
       refine Fact.then_normal ?_
       exact ⟨_, by have := HK.out; omega, i + 1, S, rfl, by omega, by rw [HS.out, show min (i + 1) t.size = i by omega], hf, s3, s4, s5, s6, s7, s8, s9, hbr.trans (hb8.mono hbr.size)⟩
  ·
   have hne : i = t.size + 1 := by have h9 := of_decide_eq_false hq; omega
   subst hne
   rw [show min (t.size + 1) t.size = t.size by omega] at HS
   refine wp_exit ?_
   refine Fact.then_exit ?_
   refine Fact.then_exit ?_
   refine Fact.block_exit ?_
   refine Fact.then_normal ?_
   refine hK9 _ _ ?_
   refine wp_seq_k (fun K25 hK25 => ?_)
   refine Fact.region ?_
   have b139 := hf.l 139 rfl
   have b140 := hf.l 140 rfl
   have b141 := hf.l 141 rfl
   have b138 := hf.l 138 rfl
   have b142 := hf.l 142 rfl
   have b143 := hf.l 143 rfl
   refine Fact.p rfl fun K hK => ?_
   go_simp
   refine hK.out _ _ ?_; clear hK K
   refine Fact.p rfl fun K hK => ?_
   go_simp
   refine hK.out _ _ ?_; clear hK K
   refine Fact.p rfl fun K hK => ?_
   go_simp
   go_at_call 22; refine (dist22 wr g q k hAr S).mono ?_; rintro e w5 ⟨rfl, h5⟩
   dsimp only
   refine hK.out _ _ ?_; clear hK K
   refine Fact.p rfl fun K hK => ?_
   go_simp
   refine hK.out _ _ ?_; clear hK K
   refine Fact.p rfl fun K hK => ?_
   go_simp
   refine hK.out _ _ ?_; clear hK K
   refine Fact.p rfl fun K hK => ?_
   go_simp
   refine hK.out _ _ ?_; clear hK K
   refine Fact.p rfl fun K hK => ?_
   go_simp
   refine hK.out _ _ ?_; clear hK K
   refine Fact.p rfl fun K hK => ?_
   go_simp
   refine hK.out _ _ ?_; clear hK K
   refine Fact.nil ?_
   refine Fact.reQ (n := 163) (by simp only [Fact.G, hf.size]) hf.defers (fun fr1 hf1 hT => ?_)
   have hKp : _ ∧ _ ∧ _ ∧ _ := ⟨hT 3, hT 7, hT 15, hT 16⟩
   simp only [Fact.G, Nat.reduceEqDiff, Nat.reduceLT, reduceIte, hf.size, s3, s7] at hKp
   clear hT hf s3 s4 s5 s6 s7 s8 s9 s43 s44 s45 s46 b139 b140 b141 b138 b142 b143
   obtain ⟨s3, s7, s15, s16⟩ := hKp
   have hf := hf1; clear hf1
   refine Fact.then_normal ?_
   refine hK25 _ _ ?_
   refine wp_seq_k (fun K26 hK26 => ?_)
   refine Fact.region ?_
   have b145 := hf.l 145 rfl
   have b146 := hf.l 146 rfl
   have b147 := hf.l 147 rfl
   have b148 := hf.l 148 rfl
   have b149 := hf.l 149 rfl
   have b150 := hf.l 150 rfl
   have b151 := hf.l 151 rfl
   have b152 := hf.l 152 rfl
   have b144 := hf.l 144 rfl
   have b153 := hf.l 153 rfl
   have b154 := hf.l 154 rfl
   refine Fact.p rfl fun K hK => ?_
   go_simp
   refine hK.out _ _ ?_; clear hK K
   refine Fact.p rfl fun K hK => ?_
   go_simp
   refine hK.out _ _ ?_; clear hK K
   refine Fact.p rfl fun K hK => ?_
   go_simp
   refine hK.out _ _ ?_; clear hK K
   refine Fact.p rfl fun K hK => ?_
   go_simp
   go_at_call 13; refine (start13 w5 u t k (hBr.later h5)).mono ?_; rintro e w6 ⟨rfl, h6⟩
   dsimp only
   refine hK.out _ _ ?_; clear hK K
   refine Fact.p rfl fun K hK => ?_
   go_simp
   refine hK.out _ _ ?_; clear hK K
   refine Fact.p rfl fun K hK => ?_
   go_simp
   have hx7 : Below w6.heap.size w6 (w6.alloc (.cells #[.string q] 9)) := (Below.refl _ _).alloc (Nat.le_refl _) _
   have hB7 := ((hBr.later h5).later h6).later hx7
   refine hK.out _ _ ?_; clear hK K
   refine Fact.p rfl fun K hK => ?_
   go_simp
   go_at_call 18; refine (read18 (w6.alloc (.cells #[.string q] 9)) u t k hB7 (startS t k) w6.heap.size 1 [q] (txt_new w6 [q]) (fun i s hi => by have := List.mem_of_getElem? hi; simp at this; subst this; omega) (by simp)).mono ?_; rintro e w8 ⟨rfl, h8⟩
   rw [readL_one]
   dsimp only
   refine hK.out _ _ ?_; clear hK K
   refine Fact.p rfl fun K hK => ?_
   go_simp
   go_at_call 22; refine (dist22 w8 u t k (hB7.later h8) (readS t k (startS t k) q)).mono ?_; rintro e w9 ⟨rfl, h9⟩
   dsimp only
   refine hK.out _ _ ?_; clear hK K
   refine Fact.p rfl fun K hK => ?_
   go_simp
   refine hK.out _ _ ?_; clear hK K
   refine Fact.p rfl fun K hK => ?_
   go_simp
   refine hK.out _ _ ?_; clear hK K
   refine Fact.p rfl fun K hK => ?_
   go_simp
   refine hK.out _ _ ?_; clear hK K
   refine Fact.p rfl fun K hK => ?_
   go_simp
   refine hK.out _ _ ?_; clear hK K
   refine Fact.p rfl fun K hK => ?_
   go_simp
   refine hK.out _ _ ?_; clear hK K
   refine Fact.nil ?_
   refine Fact.reQ (n := 163) (by simp only [Fact.G, hf.size]) hf.defers (fun fr1 hf1 hT => ?_)
   have hKp : _ ∧ _ ∧ _ ∧ _ := ⟨hT 15, hT 16, hT 17, hT 18⟩
   simp only [Fact.G, Nat.reduceEqDiff, Nat.reduceLT, reduceIte, hf.size, s15, s16] at hKp
   clear hT hf s3 s7 s15 s16 b145 b146 b147 b148 b149 b150 b151 b152 b144 b153 b154
   obtain ⟨s15, s16, s17, s18⟩ := hKp
   have hf := hf1; clear hf1
   refine Fact.then_normal ?_
   refine hK26 _ _ ?_
   have e1 : distS t k (readS t k (startS t k) q) = distS q k S := by rw [HS.out, readS, read_dist hk3, read_dist hk3, ← dst_all, ← dst_all, dst_sym]
   have e2 : isS t k (readS t k (startS t k) q) = isS q k S := by rw [HS.out, readS, read_is hk3, read_is hk3, ← dst_all, ← dst_all, dst_sym]
   rw [e1] at s17; rw [e2] at s18
   clear e1 e2
   obtain ⟨D, hD⟩ : ∃ D, distS q k S = D := ⟨_, rfl⟩
   obtain ⟨B, hB⟩ : ∃ B, isS q k S = B := ⟨_, rfl⟩
   rw [hD] at s15 s17; rw [hB] at s16 s18
   have hb9 : Below wr.heap.size wr w9 := (((h5.trans (h6.mono h5.size)).trans (hx7.mono (by have := h5.size; have := h6.size; omega))).trans (h8.mono (by have := h5.size; have := h6.size; have := hx7.size; omega))).trans (h9.mono (by have := h5.size; have := h6.size; have := hx7.size; have := h8.size; omega))
   refine wp_seq_k (fun K27 hK27 => ?_)
   refine Fact.region ?_
   have b155 := hf.l 155 rfl
   have b156 := hf.l 156 rfl
   have b157 := hf.l 157 rfl
   have b158 := hf.l 158 rfl
   have b159 := hf.l 159 rfl
   have b160 := hf.l 160 rfl
   have b161 := hf.l 161 rfl
   have b162 := hf.l 162 rfl
   refine Fact.p rfl fun K hK => ?_
   go_simp
   refine hK.out _ _ ?_; clear hK K
   refine Fact.p rfl fun K hK => ?_
   go_simp
   refine hK.out _ _ ?_; clear hK K
   refine Fact.p rfl fun K hK => ?_
   go_simp
   refine hK.out _ _ ?_; clear hK K
   refine Fact.p rfl fun K hK => ?_
   go_simp
   refine hK.out _ _ ?_; clear hK K
   refine Fact.op_guard (g := 3) (d := 158) (b := true) rfl rfl rfl ?_ (fun K hK => ?_)
   ·
    simp only [Fact.G, Nat.reduceEqDiff, Nat.reduceLT, reduceIte, hf.size, beq_self_eq_true]
   go_simp
   refine hK.out _ _ ?_; clear hK K
   refine Fact.op_guard (g := 3) (d := 158) (b := true) rfl rfl rfl ?_ (fun K hK => ?_)
   ·
    simp only [Fact.G, Nat.reduceEqDiff, Nat.reduceLT, reduceIte, hf.size, beq_self_eq_true]
   go_simp
   refine hK.out _ _ ?_; clear hK K
   refine Fact.op_guard (g := 3) (d := 158) (b := true) rfl rfl rfl ?_ (fun K hK => ?_)
   ·
    simp only [Fact.G, Nat.reduceEqDiff, Nat.reduceLT, reduceIte, hf.size, beq_self_eq_true]
   go_simp
   refine hK.out _ _ ?_; clear hK K
   refine Fact.p rfl fun K hK => ?_
   go_simp
   refine hK.out _ _ ?_; clear hK K
   refine Fact.p rfl fun K hK => ?_
   go_simp
   refine hK.out _ _ ?_; clear hK K
   refine Fact.nil ?_
   refine Fact.reQ (n := 163) (by simp only [Fact.G, hf.size]) hf.defers (fun fr1 hf1 hT => ?_)
   have hKp := hT 2
   simp only [Fact.G, Nat.reduceEqDiff, Nat.reduceLT, reduceIte, hf.size] at hKp
   clear hT hf s15 s16 s17 s18 b155 b156 b157 b158 b159 b160 b161 b162
   have s2 := hKp; clear hKp
   have hf := hf1; clear hf1
   refine Fact.then_normal ?_
   refine hK27 _ _ ?_
   refine wp_ret ?_
   exact Fact.ret1 rfl hf s2 ⟨by simp, hb4.trans ((hbr.trans (hb9.mono hbr.size)).mono hb4.size)⟩
end Lv
end Go.Proofs.Ytfgfichkcckhiaa
