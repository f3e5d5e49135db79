/- Lev: LevBytes. -/
import Derived.Test.YtfgfichkcckhiaaLConv
import Derived.Test.YtfgfichkcckhiaaLBound
namespace Go.Proofs.Ytfgfichkcckhiaa
open Go.RowKit
set_option linter.unusedSimpArgs false
set_option linter.unusedVariables false
set_option linter.unnecessarySimpa false
namespace Lv
set_option maxHeartbeats 4000000 in
set_option maxRecDepth 100000 in
theorem bytes7 (Q T0 : ByteArray) (z : Int) (hz : -128 ≤ z ∧ z ≤ 127) (w : World) : Calls Try.prog 7 #[.agg #[.string Q, .string T0, .int .i8 z]] w fun e w1 => e = .returned (.bool true) ∧ Below w.heap.size w w1 := by
 refine calls_of_wp Try.func7 rfl ?_
 refine Fact.enter (n := 114) (by kernel_rfl) (fun fr hf hT => ?_)
 have s0 := hT 0 _ rfl
 clear hT
 obtain ⟨W0, hW0⟩ : ∃ W0, w.alloc (.cells #[.string Q, .string T0, .int .i8 z] 24) = W0 := ⟨_, rfl⟩
 have hb0 : Below w.heap.size w W0 := by rw [← hW0]; exact (Below.refl _ _).alloc (Nat.le_refl _) _
 have hc0 := ask_cells w Q T0 z W0 hW0
 obtain ⟨x0, x1, x2⟩ := hc0
 refine wp_seq_k (fun K1 hK1 => ?_)
 refine Fact.region ?_
 refine Fact.p rfl fun K hK => ?_
 go_simp
 refine hK.out _ _ ?_; clear hK K
 refine Fact.p rfl fun K hK => ?_
 go_simp
 refine hK.out _ _ ?_; clear hK K
 refine Fact.nil ?_
 refine Fact.reQ (n := 114) (by simp only [Fact.G, hf.size]) hf.defers (fun fr1 hf1 hT => ?_)
 have hKp : _ ∧ _ := ⟨hT 1, hT 2⟩
 simp only [Fact.G, Nat.reduceEqDiff, Nat.reduceLT, reduceIte, hf.size] at hKp
 clear hT hf s0
 obtain ⟨s1, s2⟩ := hKp
 have hf := hf1; clear hf1
 refine Fact.then_normal ?_
 refine hK1 _ _ ?_
 try rw [hW0]
 clear hW0
 refine wp_seq_k (fun K2 hK2 => ?_)
 refine wp_seq_k (fun K3 hK3 => ?_)
 refine Fact.region ?_
 have b15 := hf.l 15 rfl
 refine Fact.p rfl fun K hK => ?_
 go_simp
 go_at_call 20; refine (works20 W0).mono ?_; rintro e w1 ⟨rfl, h1⟩
 dsimp only
 refine hK.out _ _ ?_; clear hK K
 refine Fact.p rfl fun K hK => ?_
 go_simp
 refine hK.out _ _ ?_; clear hK K
 refine Fact.nil ?_
 refine Fact.reQ (n := 114) (by simp only [Fact.G, hf.size]) hf.defers (fun fr1 hf1 hT => ?_)
 have hKp : _ ∧ _ ∧ _ := ⟨hT 1, hT 2, hT 16⟩
 simp only [Fact.G, Nat.reduceEqDiff, Nat.reduceLT, reduceIte, hf.size, s1, s2] at hKp
 clear hT hf s1 s2 b15
 obtain ⟨s1, s2, s16⟩ := hKp
 have hf := hf1; clear hf1
 refine Fact.then_normal ?_
 refine hK3 _ _ ?_
 try simp only [Bool.not_true] at s16
 refine Fact.cond_f s16 ?_
 refine wp_skip ?_
 refine Fact.then_normal ?_
 refine hK2 _ _ ?_
 have hb1 := hb0.trans (h1.mono hb0.size)
 have y0 := cell_later h1 x0; have y1 := cell_later h1 x1; have y2 := cell_later h1 x2
 clear x0 x1 x2
 refine wp_seq_k (fun K4 hK4 => ?_)
 refine Stab.todo_begin (n := 114) (Stab.OkOps.of (by kernel_rfl)) (fun hok => ?_)
 apply Stab.t 0 _ hf.size hok.out rfl
 ·
  intro fr1 w1 hh hd hk K hK
  refine Stab.op_plain (o := _) rfl rfl ?_
  have s1 := Stab.o hh (by kernel_rfl) s1
  clear hd
  go_simp
  exact hK.out _ rfl _ _ (Below.refl _ _) rfl
 apply Stab.t 1 _ hf.size hok.out rfl
 ·
  intro fr1 w1 hh hd hk K hK
  refine Stab.op_plain (o := _) rfl rfl ?_
  have s17 := Stab.u 0 0 hd hk rfl [] (by kernel_rfl) rfl rfl rfl
  clear hd
  have u0 := cell_later hh.ext y0
  go_simp
  exact hK.out _ rfl _ _ (Below.refl _ _) rfl
 apply Stab.t 2 _ hf.size hok.out rfl
 ·
  intro fr1 w1 hh hd hk K hK
  refine Stab.op_plain (o := _) rfl rfl ?_
  have s18 := Stab.u 1 0 hd hk rfl [] (by kernel_rfl) rfl rfl rfl
  clear hd
  go_simp
  go_at_call 9; refine (few9b Q 60 w1).mono ?_; rintro e w2 ⟨rfl, hb⟩
  exact hK.out _ rfl _ _ hb rfl
 apply Stab.t 3 _ hf.size hok.out rfl
 ·
  intro fr1 w1 hh hd hk K hK
  refine Stab.op_plain (o := _) rfl rfl ?_
  have s1 := Stab.o hh (by kernel_rfl) s1
  clear hd
  go_simp
  exact hK.out _ rfl _ _ (Below.refl _ _) rfl
 apply Stab.t 4 _ hf.size hok.out rfl
 ·
  intro fr1 w1 hh hd hk K hK
  refine Stab.op_plain (o := _) rfl rfl ?_
  have s20 := Stab.u 3 0 hd hk rfl [] (by kernel_rfl) rfl rfl rfl
  clear hd
  have u0 := cell_later hh.ext y1
  go_simp
  exact hK.out _ rfl _ _ (Below.refl _ _) rfl
 apply Stab.t 5 _ hf.size hok.out rfl
 ·
  intro fr1 w1 hh hd hk K hK
  refine Stab.op_plain (o := _) rfl rfl ?_
  have s21 := Stab.u 4 0 hd hk rfl [] (by kernel_rfl) rfl rfl rfl
  clear hd
  go_simp
  go_at_call 9; refine (few9b T0 60 w1).mono ?_; rintro e w2 ⟨rfl, hb⟩
  exact hK.out _ rfl _ _ hb rfl
 refine Stab.mvN (k := 6) (j := 2) (m := 3) hf.size hok.out rfl rfl rfl (.inr rfl) rfl [] (by kernel_rfl) rfl rfl rfl ?_
 refine Stab.mvN (k := 7) (j := 5) (m := 1) hf.size hok.out rfl rfl rfl (.inr rfl) rfl [] (by kernel_rfl) rfl rfl rfl ?_
 refine Stab.todo_facts (n := 114) (by kernel_rfl) hf.size hok.out rfl (fun fr1 w1 hh hg => ?_)
 replace s1 := Stab.o hh (by kernel_rfl) s1
 replace s2 := Stab.o hh (by kernel_rfl) s2
 have s3 := Stab.e 6 1 hg rfl rfl rfl rfl
 have s4 := Stab.e 7 0 hg rfl rfl rfl rfl
 have hf1 : Fact.Fr 114 fr1 := ⟨hh.size.trans hf.size, hh.defers.trans hf.defers⟩
 have hx := hh.ext
 clear hg hh hf hok s16
 have hf := hf1; clear hf1
 refine Fact.then_normal ?_
 refine hK4 _ _ ?_
 have hb2 := hb1.trans (hx.mono hb1.size)
 have y0 := cell_later hx y0; have y1 := cell_later hx y1; have y2 := cell_later hx y2
 clear hx
 obtain ⟨q, hq⟩ : ∃ q, few Q 60 = q := ⟨_, rfl⟩
 obtain ⟨t, ht⟩ : ∃ t, few T0 60 = t := ⟨_, rfl⟩
 obtain ⟨k, hk⟩ : ∃ k, bnd z = k := ⟨_, rfl⟩
 have hq60 : q.size ≤ 60 := by rw [← hq]; exact few_size _ _
 have ht60 : t.size ≤ 60 := by rw [← ht]; exact few_size _ _
 have hk3 : k ≤ 3 := by rw [← hk]; exact bnd_le z
 rw [hq] at s3; rw [ht] at s4
 clear hq ht
 refine wp_seq_k (fun K5 hK5 => ?_)
 refine Fact.region ?_
 have b23 := hf.l 23 rfl
 have b24 := hf.l 24 rfl
 have b25 := hf.l 25 rfl
 have b26 := hf.l 26 rfl
 refine Fact.p rfl fun K hK => ?_
 go_simp
 refine hK.out _ _ ?_; clear hK K
 refine Fact.p rfl fun K hK => ?_
 go_simp
 refine hK.out _ _ ?_; clear hK K
 refine Fact.p rfl fun K hK => ?_
 go_simp
 go_at_call 12; refine (bound12 Q T0 z hz w1).mono ?_; rintro e w2 ⟨rfl, h2⟩
 rw [hk]
 dsimp only
 refine hK.out _ _ ?_; clear hK K
 refine Fact.p rfl fun K hK => ?_
 go_simp
 go_at_call 10; refine (new10 q k (by omega) hk3 w2).mono ?_; rintro e w3 ⟨g, rfl, hA3, hg3, h3⟩
 dsimp only
 refine hK.out _ _ ?_; clear hK K
 refine Fact.p rfl fun K hK => ?_
 go_simp
 refine hK.out _ _ ?_; clear hK K
 refine Fact.nil ?_
 refine Fact.reQ (n := 114) (by simp only [Fact.G, hf.size]) hf.defers (fun fr1 hf1 hT => ?_)
 have hKp : _ ∧ _ ∧ _ ∧ _ := ⟨hT 2, hT 3, hT 4, hT 5⟩
 simp only [Fact.G, Nat.reduceEqDiff, Nat.reduceLT, reduceIte, hf.size, s2, s3, s4] at hKp
 clear hT hf s1 s2 s3 s4 b23 b24 b25 b26
 obtain ⟨s2, s3, s4, s5⟩ := hKp
 have hf := hf1; clear hf1
 refine Fact.then_normal ?_
 refine hK5 _ _ ?_
 have hb3 := (hb2.trans (h2.mono hb2.size)).trans (h3.mono (by have := h2.size; have := hb2.size; omega))
 clear y0 y1 y2 h2 h3 hb2 hb1 hb0 h1 hk hg3
 refine wp_seq_k (fun K6 hK6 => ?_)
 refine wp_seq_k (fun K7 hK7 => ?_)
 refine Fact.region ?_
 have b27 := hf.l 27 rfl
 refine Fact.p rfl fun K hK => ?_
 go_simp
 refine hK.out _ _ ?_; clear hK K
 refine Fact.p rfl fun K hK => ?_
 go_simp
 refine hK.out _ _ ?_; clear hK K
 refine Fact.nil ?_
 refine Fact.reQ (n := 114) (by simp only [Fact.G, hf.size]) hf.defers (fun fr1 hf1 hT => ?_)
 have hKp : _ ∧ _ ∧ _ ∧ _ ∧ _ := ⟨hT 2, hT 3, hT 4, hT 5, hT 28⟩
 simp only [Fact.G, Nat.reduceEqDiff, Nat.reduceLT, reduceIte, hf.size, s2, s3, s4, s5] at hKp
 clear hT hf s2 s3 s4 s5 b27
 obtain ⟨s2, s3, s4, s5, s28⟩ := hKp
 have hf := hf1; clear hf1
 refine Fact.then_normal ?_
 refine hK7 _ _ ?_
 refine Fact.cond_f s28 ?_
 refine wp_skip ?_
 refine Fact.then_normal ?_
 refine hK6 _ _ ?_
 refine wp_seq_k (fun K8 hK8 => ?_)
 refine Fact.region ?_
 have b29 := hf.l 29 rfl
 have b30 := hf.l 30 rfl
 have b31 := hf.l 31 rfl
 have b32 := hf.l 32 rfl
 have b33 := hf.l 33 rfl
 have b34 := hf.l 34 rfl
 refine Fact.p rfl fun K hK => ?_
 go_simp
 refine hK.out _ _ ?_; clear hK K
 refine Fact.p rfl fun K hK => ?_
 go_simp
 refine hK.out _ _ ?_; clear hK K
 refine Fact.p rfl fun K hK => ?_
 go_simp
 go_at_call 13; refine (start13 w3 g q k hA3).mono ?_; rintro e w4 ⟨rfl, h4⟩
 dsimp only
 refine hK.out _ _ ?_; clear hK K
 refine Fact.p rfl fun K hK => ?_
 go_simp
 refine hK.out _ _ ?_; clear hK K
 refine Fact.p rfl fun K hK => ?_
 go_simp
 have hx5 : Below w4.heap.size w4 (w4.alloc (.cells #[.string t] 9)) := (Below.refl _ _).alloc (Nat.le_refl _) _
 refine hK.out _ _ ?_; clear hK K
 refine Fact.p rfl fun K hK => ?_
 go_simp
 go_at_call 18; refine (read18 (w4.alloc (.cells #[.string t] 9)) g q k ((hA3.later h4).later hx5) (startS q k) w4.heap.size 1 [t] (txt_new w4 [t]) (fun i s hi => by have := List.mem_of_getElem? hi; simp at this; subst this; omega) (by simp)).mono ?_; rintro e w6 ⟨rfl, h6⟩
 dsimp only
 refine hK.out _ _ ?_; clear hK K
 refine Fact.p rfl fun K hK => ?_
 go_simp
 refine hK.out _ _ ?_; clear hK K
 refine Fact.nil ?_
 refine Fact.reQ (n := 114) (by simp only [Fact.G, hf.size]) hf.defers (fun fr1 hf1 hT => ?_)
 have hKp : _ ∧ _ ∧ _ ∧ _ := ⟨hT 2, hT 3, hT 5, hT 6⟩
 simp only [Fact.G, Nat.reduceEqDiff, Nat.reduceLT, reduceIte, hf.size, s2, s3, s5] at hKp
 clear hT hf s2 s3 s4 s5 s28 b29 b30 b31 b32 b33 b34
 obtain ⟨s2, s3, s5, s6⟩ := hKp
 have hf := hf1; clear hf1
 refine Fact.then_normal ?_
 refine hK8 _ _ ?_
 have hb6 := ((hb3.trans (h4.mono hb3.size)).trans (hx5.mono (by have := h4.size; have := hb3.size; omega))).trans (h6.mono (by have := hx5.size; have := h4.size; have := hb3.size; omega))
 have hA6 := ((hA3.later h4).later hx5).later h6
 rw [readL_one] at s6
 obtain ⟨S, hS⟩ : ∃ S, readS q k (startS q k) t = S := ⟨_, rfl⟩
 have hok : okS q k S = true := by rw [← hS]; exact readS_ok (start_ok hk3) hk3
 rw [hS] at s6
 clear hS h4 hx5 h6 hA3 hb3
 refine wp_seq_k (fun K9 hK9 => ?_)
 refine Fact.region ?_
 have b36 := hf.l 36 rfl
 have b37 := hf.l 37 rfl
 have b38 := hf.l 38 rfl
 have b35 := hf.l 35 rfl
 have b39 := hf.l 39 rfl
 have b40 := hf.l 40 rfl
 refine Fact.p rfl fun K hK => ?_
 go_simp
 refine hK.out _ _ ?_; clear hK K
 refine Fact.p rfl fun K hK => ?_
 go_simp
 refine hK.out _ _ ?_; clear hK K
 refine Fact.p rfl fun K hK => ?_
 go_simp
 go_at_call 24; refine (bytes24 w6 g q k hA6 S).mono ?_; rintro e w7 ⟨v7, rfl, hv7, h7⟩
 obtain ⟨A7, c7, rfl, hrow7⟩ := hv7.row
 dsimp only
 refine hK.out _ _ ?_; clear hK K
 refine Fact.p rfl fun K hK => ?_
 go_simp
 refine hK.out _ _ ?_; clear hK K
 refine Fact.p rfl fun K hK => ?_
 go_simp
 refine hK.out _ _ ?_; clear hK K
 refine Fact.p rfl fun K hK => ?_
 go_simp
 refine hK.out _ _ ?_; clear hK K
 refine Fact.p rfl fun K hK => ?_
 go_simp
 refine hK.out _ _ ?_; clear hK K
 refine Fact.p rfl fun K hK => ?_
 go_simp
 refine hK.out _ _ ?_; clear hK K
 refine Fact.nil ?_
 refine Fact.reQ (n := 114) (by simp only [Fact.G, hf.size]) hf.defers (fun fr1 hf1 hT => ?_)
 have hKp : _ ∧ _ ∧ _ ∧ _ ∧ _ ∧ _ := ⟨hT 2, hT 3, hT 5, hT 6, hT 7, hT 8⟩
 simp only [Fact.G, Nat.reduceEqDiff, Nat.reduceLT, reduceIte, hf.size, s2, s3, s5, s6] at hKp
 clear hT hf s2 s3 s5 s6 b36 b37 b38 b35 b39 b40
 obtain ⟨s2, s3, s5, s6, s7, s8⟩ := hKp
 have hf := hf1; clear hf1
 refine Fact.then_normal ?_
 refine hK9 _ _ ?_
 have hb7 := hb6.trans (h7.mono hb6.size)
 have hA7 := hA6.later h7
 have hmore : moreS q k S = canS q k (awayS q k S) := by rw [moreS, hok, Bool.true_and]
 rw [hmore] at s8
 obtain ⟨C, hC⟩ : ∃ C, canS q k (awayS q k S) = C := ⟨_, rfl⟩
 rw [hC] at s8
 have HC := Lib.hid hC
 obtain ⟨l, hl⟩ : ∃ l, bytesS q k S = l := ⟨_, rfl⟩
 have HL := Lib.hid hl
 rw [hl] at s7 hrow7
 obtain ⟨V, hV⟩ : ∃ V, awayS q k S = V := ⟨_, rfl⟩
 have HV := Lib.hid hV
 have hllt : ∀ x ∈ l, x < 256 := by rw [← hl]; exact bytesS_lt
 have hmem : ∀ b, b ∈ l ↔ b < 256 ∧ inQ q b = true ∧ stepS q k S b ≠ V := fun b => by rw [← hl, ← hV]; exact bytesS_mem hok
 have hnot : ∀ b, b < 256 → b ∉ l → stepS q k S b = V := fun b h8 h9 => by rw [← hV]; exact not_told hok h8 (by rw [hl]; exact h9)
 have hris : l.Pairwise (· < ·) := by rw [← hl]; exact bytesS_rising q k S
 have hlen : l.length ≤ 256 := by rw [← hl]; exact bytesS_length q k S
 have hall : ¬ ∀ c, c < 256 → c ∈ l := by rw [← hl]; exact seen_all hok (by omega)
 have HLLT := Lib.hid hllt; have HMEM := Lib.hid hmem; have HNOT := Lib.hid hnot; have HRIS := Lib.hid hris; have HALL := Lib.hid hall
 clear hC hl hV hllt hmem hnot hris hall hmore hv7
 refine wp_seq_k (fun K10 hK10 => ?_)
 refine Fact.region ?_
 refine Fact.p rfl fun K hK => ?_
 go_simp
 refine hK.out _ _ ?_; clear hK K
 refine Fact.p rfl fun K hK => ?_
 go_simp
 refine hK.out _ _ ?_; clear hK K
 refine Fact.nil ?_
 refine Fact.reQ (n := 114) (by simp only [Fact.G, hf.size]) hf.defers (fun fr1 hf1 hT => ?_)
 have hKp : _ ∧ _ ∧ _ ∧ _ ∧ _ ∧ _ ∧ _ ∧ _ := ⟨hT 2, hT 3, hT 5, hT 6, hT 7, hT 8, hT 9, hT 10⟩
 simp only [Fact.G, Nat.reduceEqDiff, Nat.reduceLT, reduceIte, hf.size, s2, s3, s5, s6, s7, s8] at hKp
 clear hT hf s2 s3 s5 s6 s7 s8
 obtain ⟨s2, s3, s5, s6, s7, s8, s9, s10⟩ := hKp
 have hf := hf1; clear hf1
 refine Fact.then_normal ?_
 refine hK10 _ _ ?_
 refine wp_seq_k (fun K11 hK11 => ?_)
 refine wp_seq_k (fun K12 hK12 => ?_)
 refine Fact.region ?_
 refine Fact.p rfl fun K hK => ?_
 go_simp
 refine hK.out _ _ ?_; clear hK K
 refine Fact.nil ?_
 refine Fact.reQ (n := 114) (by simp only [Fact.G, hf.size]) hf.defers (fun fr1 hf1 hT => ?_)
 have hKp : _ ∧ _ ∧ _ ∧ _ ∧ _ ∧ _ ∧ _ ∧ _ ∧ _ := ⟨hT 2, hT 3, hT 5, hT 6, hT 7, hT 8, hT 9, hT 10, hT 11⟩
 simp only [Fact.G, Nat.reduceEqDiff, Nat.reduceLT, reduceIte, hf.size, s2, s3, s5, s6, s7, s8, s9, s10] at hKp
 clear hT hf s2 s3 s5 s6 s7 s8 s9 s10
 obtain ⟨s2, s3, s5, s6, s7, s8, s9, s10, s11⟩ := hKp
 have hf := hf1; clear hf1
 refine Fact.then_normal ?_
 refine hK12 _ _ ?_
 refine wp_block ?_
 refine wp_loop_ghost (fun g1 fr wr => ∃ (b : Nat) (X : ByteArray) (seen : Bool), g1 = 256 - b ∧ b ≤ 256 ∧ (seen = true → X = V) ∧ (seen = false → ∀ c, c < b → c ∈ l) ∧ Fact.Fr 114 fr ∧ fr.tmps[3]? = some (.string q) ∧ fr.tmps[5]? = some (.pointer (some ⟨g, 0, none⟩)) ∧ fr.tmps[6]? = some (.string S) ∧ fr.tmps[7]? = some (.slice A7 l.length c7) ∧ fr.tmps[8]? = some (.bool C) ∧ fr.tmps[9]? = some (.string X) ∧ fr.tmps[10]? = some (.bool seen) ∧ fr.tmps[11]? = some (.int .i64 b) ∧ Below w7.heap.size w7 wr) (256) ?_ ?_
 ·
  exact ⟨0, _, false, rfl, Nat.zero_le _, (fun h => by cases h), fun _ c hc => absurd hc (Nat.not_lt_zero c), hf, s3, s5, s6, s7, s8, s9, s10, s11, Below.refl _ _⟩
 ·
  clear hf s2 s3 s5 s6 s7 s8 s9 s10 s11
  rintro g1 fr wr ⟨b, X, seen, hk1, hi, hX1, hX2, hf, s3, s5, s6, s7, s8, s9, s10, s11, hbr⟩
  have HK := Lib.hid hk1; have HX1 := Lib.hid hX1; have HX2 := Lib.hid hX2; clear hk1 hX1 hX2
  have hAr := hA7.later hbr
  have hrow := hrow7.later hbr
  refine wp_seq_k (fun K13 hK13 => ?_)
  refine wp_seq_k (fun K14 hK14 => ?_)
  refine Fact.region ?_
  have b41 := hf.l 41 rfl
  refine Fact.p rfl fun K hK => ?_
  go_simp
  refine hK.out _ _ ?_; clear hK K
  refine Fact.p rfl fun K hK => ?_
  go_simp
  refine hK.out _ _ ?_; clear hK K
  refine Fact.nil ?_
  refine Fact.reQ (n := 114) (by simp only [Fact.G, hf.size]) hf.defers (fun fr1 hf1 hT => ?_)
  have hKp : _ ∧ _ ∧ _ ∧ _ ∧ _ ∧ _ ∧ _ ∧ _ ∧ _ ∧ _ := ⟨hT 3, hT 5, hT 6, hT 7, hT 8, hT 9, hT 10, hT 11, hT 41, hT 42⟩
  simp only [Fact.G, Nat.reduceEqDiff, Nat.reduceLT, reduceIte, hf.size, s3, s5, s6, s7, s8, s9, s10, s11] at hKp
  clear hT hf s3 s5 s6 s7 s8 s9 s10 s11 b41
  obtain ⟨s3, s5, s6, s7, s8, s9, s10, s11, s41, s42⟩ := hKp
  have hf := hf1; clear hf1
  refine Fact.then_normal ?_
  refine hK14 _ _ ?_
  refine Fact.cond_s s42 (fun hq => ?_) (fun hq => ?_)
  ·
   have hbt : b < 256 := by have h9 := of_decide_eq_true hq; omega
   have e8 : IntKind.u8.wrap (b : Int) = (b : Int) := Fact.wrap_u8 (by omega) (by omega)
   have hcv := hrow.conv (c := c7)
   have hco := conv_one wr b
   have hb13 : Below wr.heap.size wr (wr.alloc (.cells #[.int .u8 (b : Int)] 5)) := (Below.refl _ _).alloc (Nat.le_refl _) _
   rcases hm : decide (b ∈ l) with _ | _
   ·
    have hbl : b ∉ l := of_decide_eq_false hm
    refine wp_skip ?_
    refine Fact.then_normal ?_
    refine hK13 _ _ ?_
    refine wp_seq_k (fun K15 hK15 => ?_)
    refine wp_block ?_
    refine wp_seq_k (fun K16 hK16 => ?_)
    refine Fact.region ?_
    have b45 := hf.l 45 rfl
    have b46 := hf.l 46 rfl
    have b47 := hf.l 47 rfl
    have b48 := hf.l 48 rfl
    have b49 := hf.l 49 rfl
    have b50 := hf.l 50 rfl
    have b51 := hf.l 51 rfl
    refine Fact.p rfl fun K hK => ?_
    go_simp
    refine hK.out _ _ ?_; clear hK K
    refine Fact.p rfl fun K hK => ?_
    go_simp
    refine hK.out _ _ ?_; clear hK K
    refine Fact.p rfl fun K hK => ?_
    go_simp
    refine hK.out _ _ ?_; clear hK K
    refine Fact.p rfl fun K hK => ?_
    go_simp
    refine hK.out _ _ ?_; clear hK K
    refine Fact.p rfl fun K hK => ?_
    go_simp
    refine hK.out _ _ ?_; clear hK K
    refine Fact.p rfl fun K hK => ?_
    go_simp
    refine hK.out _ _ ?_; clear hK K
    refine Fact.p rfl fun K hK => ?_
    go_simp
    go_at_call 25; refine (Try.strings_Contains_one (strOf l) (UInt8.ofNat b) _).mono ?_; rintro e w8 ⟨rfl, rfl⟩
    rw [index_row HLLT.out hbt, hm]
    dsimp only
    refine hK.out _ _ ?_; clear hK K
    refine Fact.p rfl fun K hK => ?_
    go_simp
    refine hK.out _ _ ?_; clear hK K
    refine Fact.nil ?_
    refine Fact.reQ (n := 114) (by simp only [Fact.G, hf.size]) hf.defers (fun fr1 hf1 hT => ?_)
    have hKp : _ ∧ _ ∧ _ ∧ _ ∧ _ ∧ _ ∧ _ ∧ _ ∧ _ ∧ _ ∧ _ ∧ _ ∧ _ ∧ _ ∧ _ ∧ _ ∧ _ ∧ _ := ⟨hT 3, hT 5, hT 6, hT 7, hT 8, hT 9, hT 10, hT 11, hT 12, hT 41, hT 42, hT 45, hT 46, hT 47, hT 48, hT 49, hT 50, hT 51⟩
    simp only [Fact.G, Nat.reduceEqDiff, Nat.reduceLT, reduceIte, hf.size, s3, s5, s6, s7, s8, s9, s10, s11, s41, s42] at hKp
    clear hT hf s3 s5 s6 s7 s8 s9 s10 s11 s41 s42 b45 b46 b47 b48 b49 b50 b51
    obtain ⟨s3, s5, s6, s7, s8, s9, s10, s11, s12, s41, s42, s45, s46, s47, s48, s49, s50, s51⟩ := hKp
    have hf := hf1; clear hf1
    refine Fact.then_normal ?_
    refine hK16 _ _ ?_
    refine wp_seq_k (fun K17 hK17 => ?_)
    refine Fact.region ?_
    have b52 := hf.l 52 rfl
    have b53 := hf.l 53 rfl
    have b54 := hf.l 54 rfl
    have b55 := hf.l 55 rfl
    have b56 := hf.l 56 rfl
    refine Fact.p rfl fun K hK => ?_
    go_simp
    refine hK.out _ _ ?_; clear hK K
    refine Fact.p rfl fun K hK => ?_
    go_simp
    refine hK.out _ _ ?_; clear hK K
    refine Fact.p rfl fun K hK => ?_
    go_simp
    refine hK.out _ _ ?_; clear hK K
    refine Fact.p rfl fun K hK => ?_
    go_simp
    refine hK.out _ _ ?_; clear hK K
    refine Fact.p rfl fun K hK => ?_
    go_simp
    go_at_call 16; refine (step16 (wr.alloc (.cells #[.int .u8 (b : Int)] 5)) g q k (hAr.later hb13) S b).mono ?_; rintro e w9 ⟨rfl, h9⟩
    rw [HNOT.out b hbt hbl]
    dsimp only
    refine hK.out _ _ ?_; clear hK K
    refine Fact.p rfl fun K hK => ?_
    go_simp
    refine hK.out _ _ ?_; clear hK K
    refine Fact.nil ?_
    refine Fact.reQ (n := 114) (by simp only [Fact.G, hf.size]) hf.defers (fun fr1 hf1 hT => ?_)
    have hKp : _ ∧ _ ∧ _ ∧ _ ∧ _ ∧ _ ∧ _ ∧ _ ∧ _ ∧ _ ∧ _ ∧ _ ∧ _ ∧ _ ∧ _ ∧ _ ∧ _ ∧ _ ∧ _ ∧ _ ∧ _ ∧ _ ∧ _ ∧ _ := ⟨hT 3, hT 5, hT 6, hT 7, hT 8, hT 9, hT 10, hT 11, hT 12, hT 13, hT 41, hT 42, hT 45, hT 46, hT 47, hT 48, hT 49, hT 50, hT 51, hT 52, hT 53, hT 54, hT 55, hT 56⟩
    simp only [Fact.G, Nat.reduceEqDiff, Nat.reduceLT, reduceIte, hf.size, s3, s5, s6, s7, s8, s9, s10, s11, s12, s41, s42, s45, s46, s47, s48, s49, s50, s51] at hKp
    clear hT hf s3 s5 s6 s7 s8 s9 s10 s11 s12 s41 s42 s45 s46 s47 s48 s49 s50 s51 b52 b53 b54 b55 b56
    obtain ⟨s3, s5, s6, s7, s8, s9, s10, s11, s12, s13, s41, s42, s45, s46, s47, s48, s49, s50, s51, s52, s53, s54, s55, s56⟩ := hKp
    have hf := hf1; clear hf1
    refine Fact.then_normal ?_
    refine hK17 _ _ ?_
    refine wp_seq_k (fun K18 hK18 => ?_)
    refine wp_seq_k (fun K19 hK19 => ?_)
    refine Fact.region ?_
    refine Fact.p rfl fun K hK => ?_
    go_simp
    refine hK.out _ _ ?_; clear hK K
    refine Fact.nil ?_
    refine Fact.reQ (n := 114) (by simp only [Fact.G, hf.size]) hf.defers (fun fr1 hf1 hT => ?_)
    have hKp : _ ∧ _ ∧ _ ∧ _ ∧ _ ∧ _ ∧ _ ∧ _ ∧ _ ∧ _ ∧ _ ∧ _ ∧ _ ∧ _ ∧ _ ∧ _ ∧ _ ∧ _ ∧ _ ∧ _ ∧ _ ∧ _ ∧ _ ∧ _ ∧ _ := ⟨hT 3, hT 5, hT 6, hT 7, hT 8, hT 9, hT 10, hT 11, hT 12, hT 13, hT 41, hT 42, hT 45, hT 46, hT 47, hT 48, hT 49, hT 50, hT 51, hT 52, hT 53, hT 54, hT 55, hT 56, hT 57⟩
    simp only [Fact.G, Nat.reduceEqDiff, Nat.reduceLT, reduceIte, hf.size, s3, s5, s6, s7, s8, s9, s10, s11, s12, s13, s41, s42, s45, s46, s47, s48, s49, s50, s51, s52, s53, s54, s55, s56] at hKp
    clear hT hf s3 s5 s6 s7 s8 s9 s10 s11 s12 s13 s41 s42 s45 s46 s47 s48 s49 s50 s51 s52 s53 s54 s55 s56
    obtain ⟨s3, s5, s6, s7, s8, s9, s10, s11, s12, s13, s41, s42, s45, s46, s47, s48, s49, s50, s51, s52, s53, s54, s55, s56, s57⟩ := hKp
    have hf := hf1; clear hf1
    refine Fact.then_normal ?_
    refine hK19 _ _ ?_
    refine Fact.cond_f s57 ?_
    refine wp_skip ?_
    refine Fact.then_normal ?_
    refine hK18 _ _ ?_
    have hb9 := hb13.trans (h9.mono hb13.size)
    have hA9 := (hAr.later hb13).later h9
    rcases hs : seen with _ | _
    ·
     subst hs
     refine wp_seq_k (fun K20 hK20 => ?_)
     refine wp_seq_k (fun K21 hK21 => ?_)
     refine Fact.region ?_
     have b65 := hf.l 65 rfl
     have b66 := hf.l 66 rfl
     have b67 := hf.l 67 rfl
     have b68 := hf.l 68 rfl
     have b69 := hf.l 69 rfl
     have b70 := hf.l 70 rfl
     have b71 := hf.l 71 rfl
     have b72 := hf.l 72 rfl
     have b73 := hf.l 73 rfl
     have b74 := hf.l 74 rfl
     have b75 := hf.l 75 rfl
     have b76 := hf.l 76 rfl
     refine Fact.p rfl fun K hK => ?_
     go_simp
     refine hK.out _ _ ?_; clear hK K
     refine Fact.p rfl fun K hK => ?_
     go_simp
     refine hK.out _ _ ?_; clear hK K
     refine Fact.op_skip (g := 1) (d := 66) (b := true) rfl rfl rfl ?_ ?_
     ·
      simp only [Fact.G, Nat.reduceEqDiff, Nat.reduceLT, reduceIte, hf.size, Bool.not_true, Bool.not_false, bne_self_eq_false]
     refine Fact.op_skip (g := 1) (d := 66) (b := true) rfl rfl rfl ?_ ?_
     ·
      simp only [Fact.G, Nat.reduceEqDiff, Nat.reduceLT, reduceIte, hf.size, Bool.not_true, Bool.not_false, bne_self_eq_false]
     refine Fact.op_skip (g := 1) (d := 66) (b := true) rfl rfl rfl ?_ ?_
     ·
      simp only [Fact.G, Nat.reduceEqDiff, Nat.reduceLT, reduceIte, hf.size, Bool.not_true, Bool.not_false, bne_self_eq_false]
     refine Fact.p rfl fun K hK => ?_
     go_simp
     refine hK.out _ _ ?_; clear hK K
     refine Fact.p rfl fun K hK => ?_
     go_simp
     refine hK.out _ _ ?_; clear hK K
     refine Fact.op_guard (g := 6) (d := 71) (b := false) rfl rfl rfl ?_ (fun K hK => ?_)
     ·
      simp only [Fact.G, Nat.reduceEqDiff, Nat.reduceLT, reduceIte, hf.size, bne_self_eq_false]
     go_simp
     refine hK.out _ _ ?_; clear hK K
     refine Fact.op_guard (g := 6) (d := 71) (b := false) rfl rfl rfl ?_ (fun K hK => ?_)
     ·
      simp only [Fact.G, Nat.reduceEqDiff, Nat.reduceLT, reduceIte, hf.size, bne_self_eq_false]
     go_simp
     refine hK.out _ _ ?_; clear hK K
     refine Fact.op_guard (g := 6) (d := 71) (b := false) rfl rfl rfl ?_ (fun K hK => ?_)
     ·
      simp only [Fact.G, Nat.reduceEqDiff, Nat.reduceLT, reduceIte, hf.size, bne_self_eq_false]
     go_simp
     go_at_call 21; refine (can21 w9 g q k hA9 V).mono ?_; rintro e w10 ⟨rfl, h10⟩
     rw [← HV.out, HC.out]
     dsimp only
     refine hK.out _ _ ?_; clear hK K
     refine Fact.op_guard (g := 6) (d := 71) (b := false) rfl rfl rfl ?_ (fun K hK => ?_)
     ·
      simp only [Fact.G, Nat.reduceEqDiff, Nat.reduceLT, reduceIte, hf.size, bne_self_eq_false]
     go_simp
     refine hK.out _ _ ?_; clear hK K
     refine Fact.op_guard (g := 6) (d := 71) (b := false) rfl rfl rfl ?_ (fun K hK => ?_)
     ·
      simp only [Fact.G, Nat.reduceEqDiff, Nat.reduceLT, reduceIte, hf.size, bne_self_eq_false]
     go_simp
     refine hK.out _ _ ?_; clear hK K
     refine Fact.p rfl fun K hK => ?_
     go_simp
     refine hK.out _ _ ?_; clear hK K
     refine Fact.nil ?_
     refine Fact.reQ (n := 114) (by simp only [Fact.G, hf.size]) hf.defers (fun fr1 hf1 hT => ?_)
     have hKp : _ ∧ _ ∧ _ ∧ _ ∧ _ ∧ _ ∧ _ ∧ _ ∧ _ ∧ _ ∧ _ ∧ _ ∧ _ ∧ _ ∧ _ ∧ _ ∧ _ ∧ _ ∧ _ ∧ _ ∧ _ ∧ _ ∧ _ ∧ _ ∧ _ ∧ _ ∧ _ ∧ _ ∧ _ ∧ _ ∧ _ ∧ _ ∧ _ ∧ _ ∧ _ ∧ _ ∧ _ ∧ _ := ⟨hT 3, hT 5, hT 6, hT 7, hT 8, hT 9, hT 10, hT 11, hT 12, hT 13, hT 41, hT 42, hT 45, hT 46, hT 47, hT 48, hT 49, hT 50, hT 51, hT 52, hT 53, hT 54, hT 55, hT 56, hT 57, hT 65, hT 66, hT 67, hT 68, hT 69, hT 70, hT 71, hT 72, hT 73, hT 74, hT 75, hT 76, hT 77⟩
     simp only [Fact.G, Nat.reduceEqDiff, Nat.reduceLT, reduceIte, hf.size, s3, s5, s6, s7, s8, s9, s10, s11, s12, s13, s41, s42, s45, s46, s47, s48, s49, s50, s51, s52, s53, s54, s55, s56, s57] at hKp
     clear hT hf s3 s5 s6 s7 s8 s9 s10 s11 s12 s13 s41 s42 s45 s46 s47 s48 s49 s50 s51 s52 s53 s54 s55 s56 s57 b65 b66 b67 b68 b69 b70 b71 b72 b73 b74 b75 b76
     obtain ⟨s3, s5, s6, s7, s8, s9, s10, s11, s12, s13, s41, s42, s45, s46, s47, s48, s49, s50, s51, s52, s53, s54, s55, s56, s57, s65, s66, s67, s68, s69, s70, s71, s72, s73, s74, s75, s76, s77⟩ := hKp
     have hf := hf1; clear hf1
     refine Fact.then_normal ?_
     refine hK21 _ _ ?_
     try simp only [bne_self_eq_false] at s77
     refine Fact.cond_f s77 ?_
     refine wp_skip ?_
     refine Fact.then_normal ?_
     refine hK20 _ _ ?_
     refine wp_seq_k (fun K22 hK22 => ?_)
     refine Fact.region ?_
     have b78 := hf.l 78 rfl
     refine Fact.p rfl fun K hK => ?_
     go_simp
     refine hK.out _ _ ?_; clear hK K
     refine Fact.p rfl fun K hK => ?_
     go_simp
     refine hK.out _ _ ?_; clear hK K
     refine Fact.nil ?_
     refine Fact.reQ (n := 114) (by simp only [Fact.G, hf.size]) hf.defers (fun fr1 hf1 hT => ?_)
     have hKp : _ ∧ _ ∧ _ ∧ _ ∧ _ ∧ _ ∧ _ ∧ _ ∧ _ ∧ _ ∧ _ ∧ _ ∧ _ ∧ _ ∧ _ ∧ _ ∧ _ ∧ _ ∧ _ ∧ _ ∧ _ ∧ _ ∧ _ ∧ _ ∧ _ ∧ _ ∧ _ ∧ _ ∧ _ ∧ _ ∧ _ ∧ _ ∧ _ ∧ _ ∧ _ ∧ _ ∧ _ ∧ _ ∧ _ := ⟨hT 3, hT 5, hT 6, hT 7, hT 8, hT 9, hT 10, hT 11, hT 12, hT 13, hT 41, hT 42, hT 45, hT 46, hT 47, hT 48, hT 49, hT 50, hT 51, hT 52, hT 53, hT 54, hT 55, hT 56, hT 57, hT 65, hT 66, hT 67, hT 68, hT 69, hT 70, hT 71, hT 72, hT 73, hT 74, hT 75, hT 76, hT 77, hT 78⟩
     simp only [Fact.G, Nat.reduceEqDiff, Nat.reduceLT, reduceIte, hf.size, s3, s5, s6, s7, s8, s10, s11, s12, s13, s41, s42, s45, s46, s47, s48, s49, s50, s51, s52, s53, s54, s55, s56, s57, s65, s66, s67, s68, s69, s70, s71, s72, s73, s74, s75, s76, s77] at hKp
     clear hT hf s3 s5 s6 s7 s8 s9 s10 s11 s12 s13 s41 s42 s45 s46 s47 s48 s49 s50 s51 s52 s53 s54 s55 s56 s57 s65 s66 s67 s68 s69 s70 s71 s72 s73 s74 s75 s76 s77 b78
     obtain ⟨s3, s5, s6, s7, s8, s9, s10, s11, s12, s13, s41, s42, s45, s46, s47, s48, s49, s50, s51, s52, s53, s54, s55, s56, s57, s65, s66, s67, s68, s69, s70, s71, s72, s73, s74, s75, s76, s77, s78⟩ := hKp
     have hf := hf1; clear hf1
     refine Fact.then_normal ?_
     refine hK22 _ _ ?_
     refine Fact.region ?_
     refine Fact.p rfl fun K hK => ?_
     go_simp
     refine hK.out _ _ ?_; clear hK K
     refine Fact.nil ?_
     refine Fact.reQ (n := 114) (by simp only [Fact.G, hf.size]) hf.defers (fun fr1 hf1 hT => ?_)
     have hKp : _ ∧ _ ∧ _ ∧ _ ∧ _ ∧ _ ∧ _ ∧ _ ∧ _ ∧ _ ∧ _ ∧ _ ∧ _ ∧ _ ∧ _ ∧ _ ∧ _ ∧ _ ∧ _ ∧ _ ∧ _ ∧ _ ∧ _ ∧ _ ∧ _ ∧ _ ∧ _ ∧ _ ∧ _ ∧ _ ∧ _ ∧ _ ∧ _ ∧ _ ∧ _ ∧ _ ∧ _ ∧ _ ∧ _ := ⟨hT 3, hT 5, hT 6, hT 7, hT 8, hT 9, hT 10, hT 11, hT 12, hT 13, hT 41, hT 42, hT 45, hT 46, hT 47, hT 48, hT 49, hT 50, hT 51, hT 52, hT 53, hT 54, hT 55, hT 56, hT 57, hT 65, hT 66, hT 67, hT 68, hT 69, hT 70, hT 71, hT 72, hT 73, hT 74, hT 75, hT 76, hT 77, hT 78⟩
     simp only [Fact.G, Nat.reduceEqDiff, Nat.reduceLT, reduceIte, hf.size, s3, s5, s6, s7, s8, s9, s11, s12, s13, s41, s42, s45, s46, s47, s48, s49, s50, s51, s52, s53, s54, s55, s56, s57, s65, s66, s67, s68, s69, s70, s71, s72, s73, s74, s75, s76, s77, s78] at hKp
     clear hT hf s3 s5 s6 s7 s8 s9 s10 s11 s12 s13 s41 s42 s45 s46 s47 s48 s49 s50 s51 s52 s53 s54 s55 s56 s57 s65 s66 s67 s68 s69 s70 s71 s72 s73 s74 s75 s76 s77 s78
     obtain ⟨s3, s5, s6, s7, s8, s9, s10, s11, s12, s13, s41, s42, s45, s46, s47, s48, s49, s50, s51, s52, s53, s54, s55, s56, s57, s65, s66, s67, s68, s69, s70, s71, s72, s73, s74, s75, s76, s77, s78⟩ := hKp
     have hf := hf1; clear hf1
     refine Fact.block_normal ?_
     refine Fact.then_normal ?_
     refine hK15 _ _ ?_
     refine Fact.region ?_
     have b43 := hf.l 43 rfl
     have b44 := hf.l 44 rfl
     refine Fact.p rfl fun K hK => ?_
     go_simp
     refine hK.out _ _ ?_; clear hK K
     refine Fact.p rfl fun K hK => ?_
     go_simp
     try simp (disch := omega) only [Fact.wrap_i64, Fact.wrap_u8, Fact.wrap_u32, Fact.wrap_u64]
     refine hK.out _ _ ?_; clear hK K
     refine Fact.p rfl fun K hK => ?_
     go_simp
     refine hK.out _ _ ?_; clear hK K
     refine Fact.nil ?_
     refine Fact.reQ (n := 114) (by simp only [Fact.G, hf.size]) hf.defers (fun fr1 hf1 hT => ?_)
     have hKp : _ ∧ _ ∧ _ ∧ _ ∧ _ ∧ _ ∧ _ ∧ _ ∧ _ ∧ _ ∧ _ ∧ _ ∧ _ ∧ _ ∧ _ ∧ _ ∧ _ ∧ _ ∧ _ ∧ _ ∧ _ ∧ _ ∧ _ ∧ _ ∧ _ ∧ _ ∧ _ ∧ _ ∧ _ ∧ _ ∧ _ ∧ _ ∧ _ ∧ _ ∧ _ ∧ _ ∧ _ ∧ _ ∧ _ ∧ _ ∧ _ := ⟨hT 3, hT 5, hT 6, hT 7, hT 8, hT 9, hT 10, hT 11, hT 12, hT 13, hT 41, hT 42, hT 43, hT 44, hT 45, hT 46, hT 47, hT 48, hT 49, hT 50, hT 51, hT 52, hT 53, hT 54, hT 55, hT 56, hT 57, hT 65, hT 66, hT 67, hT 68, hT 69, hT 70, hT 71, hT 72, hT 73, hT 74, hT 75, hT 76, hT 77, hT 78⟩
     simp only [Fact.G, Nat.reduceEqDiff, Nat.reduceLT, reduceIte, hf.size, s3, s5, s6, s7, s8, s9, s10, s12, s13, s41, s42, s45, s46, s47, s48, s49, s50, s51, s52, s53, s54, s55, s56, s57, s65, s66, s67, s68, s69, s70, s71, s72, s73, s74, s75, s76, s77, s78] at hKp
     clear hT hf s3 s5 s6 s7 s8 s9 s10 s11 s12 s13 s41 s42 s45 s46 s47 s48 s49 s50 s51 s52 s53 s54 s55 s56 s57 s65 s66 s67 s68 s69 s70 s71 s72 s73 s74 s75 s76 s77 s78 b43 b44
     obtain ⟨s3, s5, s6, s7, s8, s9, s10, s11, s12, s13, s41, s42, s43, s44, s45, s46, s47, s48, s49, s50, s51, s52, s53, s54, s55, s56, s57, s65, s66, s67, s68, s69, s70, s71, s72, s73, s74, s75, s76, s77, s78⟩ := hKp
     have hf := hf1; clear hf1
     refine Fact.then_normal ?_
     exact ⟨_, by have := HK.out; omega, b + 1, V, true, rfl, by omega, fun _ => rfl, (fun h => by cases h), hf, s3, s5, s6, s7, s8, s9, s10, by rw [s11]; rfl, hbr.trans ((hb9.trans (h10.mono hb9.size)).mono hbr.size)⟩
    ·
     subst hs
     have hXV := HX1.out rfl
     rw [hXV] at s9
     refine wp_seq_k (fun K23 hK23 => ?_)
     refine wp_seq_k (fun K24 hK24 => ?_)
     refine Fact.region ?_
     have b65 := hf.l 65 rfl
     have b66 := hf.l 66 rfl
     have b67 := hf.l 67 rfl
     have b68 := hf.l 68 rfl
     have b69 := hf.l 69 rfl
     have b70 := hf.l 70 rfl
     have b71 := hf.l 71 rfl
     have b72 := hf.l 72 rfl
     have b73 := hf.l 73 rfl
     have b74 := hf.l 74 rfl
     have b75 := hf.l 75 rfl
     have b76 := hf.l 76 rfl
     refine Fact.p rfl fun K hK => ?_
     go_simp
     refine hK.out _ _ ?_; clear hK K
     refine Fact.p rfl fun K hK => ?_
     go_simp
     refine hK.out _ _ ?_; clear hK K
     refine Fact.op_guard (g := 1) (d := 66) (b := true) rfl rfl rfl ?_ (fun K hK => ?_)
     ·
      simp only [Fact.G, Nat.reduceEqDiff, Nat.reduceLT, reduceIte, hf.size, bne_self_eq_false]
     go_simp
     refine hK.out _ _ ?_; clear hK K
     refine Fact.op_guard (g := 1) (d := 66) (b := true) rfl rfl rfl ?_ (fun K hK => ?_)
     ·
      simp only [Fact.G, Nat.reduceEqDiff, Nat.reduceLT, reduceIte, hf.size, bne_self_eq_false]
     go_simp
     refine hK.out _ _ ?_; clear hK K
     refine Fact.op_guard (g := 1) (d := 66) (b := true) rfl rfl rfl ?_ (fun K hK => ?_)
     ·
      simp only [Fact.G, Nat.reduceEqDiff, Nat.reduceLT, reduceIte, hf.size, bne_self_eq_false]
     go_simp
     refine hK.out _ _ ?_; clear hK K
     refine Fact.p rfl fun K hK => ?_
     go_simp
     refine hK.out _ _ ?_; clear hK K
     refine Fact.p rfl fun K hK => ?_
     go_simp
     refine hK.out _ _ ?_; clear hK K
     refine Fact.op_guard (g := 6) (d := 71) (b := false) rfl rfl rfl ?_ (fun K hK => ?_)
     ·
      simp only [Fact.G, Nat.reduceEqDiff, Nat.reduceLT, reduceIte, hf.size, bne_self_eq_false]
     go_simp
     refine hK.out _ _ ?_; clear hK K
     refine Fact.op_guard (g := 6) (d := 71) (b := false) rfl rfl rfl ?_ (fun K hK => ?_)
     ·
      simp only [Fact.G, Nat.reduceEqDiff, Nat.reduceLT, reduceIte, hf.size, bne_self_eq_false]
     go_simp
     refine hK.out _ _ ?_; clear hK K
     refine Fact.op_guard (g := 6) (d := 71) (b := false) rfl rfl rfl ?_ (fun K hK => ?_)
     ·
      simp only [Fact.G, Nat.reduceEqDiff, Nat.reduceLT, reduceIte, hf.size, bne_self_eq_false]
     go_simp
     go_at_call 21; refine (can21 w9 g q k hA9 V).mono ?_; rintro e w10 ⟨rfl, h10⟩
     rw [← HV.out, HC.out]
     dsimp only
     refine hK.out _ _ ?_; clear hK K
     refine Fact.op_guard (g := 6) (d := 71) (b := false) rfl rfl rfl ?_ (fun K hK => ?_)
     ·
      simp only [Fact.G, Nat.reduceEqDiff, Nat.reduceLT, reduceIte, hf.size, bne_self_eq_false]
     go_simp
     refine hK.out _ _ ?_; clear hK K
     refine Fact.op_guard (g := 6) (d := 71) (b := false) rfl rfl rfl ?_ (fun K hK => ?_)
     ·
      simp only [Fact.G, Nat.reduceEqDiff, Nat.reduceLT, reduceIte, hf.size, bne_self_eq_false]
     go_simp
     refine hK.out _ _ ?_; clear hK K
     refine Fact.p rfl fun K hK => ?_
     go_simp
     refine hK.out _ _ ?_; clear hK K
     refine Fact.nil ?_
     refine Fact.reQ (n := 114) (by simp only [Fact.G, hf.size]) hf.defers (fun fr1 hf1 hT => ?_)
     have hKp : _ ∧ _ ∧ _ ∧ _ ∧ _ ∧ _ ∧ _ ∧ _ ∧ _ ∧ _ ∧ _ ∧ _ ∧ _ ∧ _ ∧ _ ∧ _ ∧ _ ∧ _ ∧ _ ∧ _ ∧ _ ∧ _ ∧ _ ∧ _ ∧ _ ∧ _ ∧ _ ∧ _ ∧ _ ∧ _ ∧ _ ∧ _ ∧ _ ∧ _ ∧ _ ∧ _ ∧ _ ∧ _ := ⟨hT 3, hT 5, hT 6, hT 7, hT 8, hT 9, hT 10, hT 11, hT 12, hT 13, hT 41, hT 42, hT 45, hT 46, hT 47, hT 48, hT 49, hT 50, hT 51, hT 52, hT 53, hT 54, hT 55, hT 56, hT 57, hT 65, hT 66, hT 67, hT 68, hT 69, hT 70, hT 71, hT 72, hT 73, hT 74, hT 75, hT 76, hT 77⟩
     simp only [Fact.G, Nat.reduceEqDiff, Nat.reduceLT, reduceIte, hf.size, s3, s5, s6, s7, s8, s9, s10, s11, s12, s13, s41, s42, s45, s46, s47, s48, s49, s50, s51, s52, s53, s54, s55, s56, s57] at hKp
     clear hT hf s3 s5 s6 s7 s8 s9 s10 s11 s12 s13 s41 s42 s45 s46 s47 s48 s49 s50 s51 s52 s53 s54 s55 s56 s57 b65 b66 b67 b68 b69 b70 b71 b72 b73 b74 b75 b76
     obtain ⟨s3, s5, s6, s7, s8, s9, s10, s11, s12, s13, s41, s42, s45, s46, s47, s48, s49, s50, s51, s52, s53, s54, s55, s56, s57, s65, s66, s67, s68, s69, s70, s71, s72, s73, s74, s75, s76, s77⟩ := hKp
     have hf := hf1; clear hf1
     refine Fact.then_normal ?_
     refine hK24 _ _ ?_
     try simp only [bne_self_eq_false] at s77
     refine Fact.cond_f s77 ?_
     refine wp_skip ?_
     refine Fact.then_normal ?_
     refine hK23 _ _ ?_
     refine wp_seq_k (fun K25 hK25 => ?_)
     refine Fact.region ?_
     have b78 := hf.l 78 rfl
     refine Fact.p rfl fun K hK => ?_
     go_simp
     refine hK.out _ _ ?_; clear hK K
     refine Fact.p rfl fun K hK => ?_
     go_simp
     refine hK.out _ _ ?_; clear hK K
     refine Fact.nil ?_
     refine Fact.reQ (n := 114) (by simp only [Fact.G, hf.size]) hf.defers (fun fr1 hf1 hT => ?_)
     have hKp : _ ∧ _ ∧ _ ∧ _ ∧ _ ∧ _ ∧ _ ∧ _ ∧ _ ∧ _ ∧ _ ∧ _ ∧ _ ∧ _ ∧ _ ∧ _ ∧ _ ∧ _ ∧ _ ∧ _ ∧ _ ∧ _ ∧ _ ∧ _ ∧ _ ∧ _ ∧ _ ∧ _ ∧ _ ∧ _ ∧ _ ∧ _ ∧ _ ∧ _ ∧ _ ∧ _ ∧ _ ∧ _ ∧ _ := ⟨hT 3, hT 5, hT 6, hT 7, hT 8, hT 9, hT 10, hT 11, hT 12, hT 13, hT 41, hT 42, hT 45, hT 46, hT 47, hT 48, hT 49, hT 50, hT 51, hT 52, hT 53, hT 54, hT 55, hT 56, hT 57, hT 65, hT 66, hT 67, hT 68, hT 69, hT 70, hT 71, hT 72, hT 73, hT 74, hT 75, hT 76, hT 77, hT 78⟩
     simp only [Fact.G, Nat.reduceEqDiff, Nat.reduceLT, reduceIte, hf.size, s3, s5, s6, s7, s8, s10, s11, s12, s13, s41, s42, s45, s46, s47, s48, s49, s50, s51, s52, s53, s54, s55, s56, s57, s65, s66, s67, s68, s69, s70, s71, s72, s73, s74, s75, s76, s77] at hKp
     clear hT hf s3 s5 s6 s7 s8 s9 s10 s11 s12 s13 s41 s42 s45 s46 s47 s48 s49 s50 s51 s52 s53 s54 s55 s56 s57 s65 s66 s67 s68 s69 s70 s71 s72 s73 s74 s75 s76 s77 b78
     obtain ⟨s3, s5, s6, s7, s8, s9, s10, s11, s12, s13, s41, s42, s45, s46, s47, s48, s49, s50, s51, s52, s53, s54, s55, s56, s57, s65, s66, s67, s68, s69, s70, s71, s72, s73, s74, s75, s76, s77, s78⟩ := hKp
     have hf := hf1; clear hf1
     refine Fact.then_normal ?_
     refine hK25 _ _ ?_
     refine Fact.region ?_
     refine Fact.p rfl fun K hK => ?_
     go_simp
     refine hK.out _ _ ?_; clear hK K
     refine Fact.nil ?_
     refine Fact.reQ (n := 114) (by simp only [Fact.G, hf.size]) hf.defers (fun fr1 hf1 hT => ?_)
     have hKp : _ ∧ _ ∧ _ ∧ _ ∧ _ ∧ _ ∧ _ ∧ _ ∧ _ ∧ _ ∧ _ ∧ _ ∧ _ ∧ _ ∧ _ ∧ _ ∧ _ ∧ _ ∧ _ ∧ _ ∧ _ ∧ _ ∧ _ ∧ _ ∧ _ ∧ _ ∧ _ ∧ _ ∧ _ ∧ _ ∧ _ ∧ _ ∧ _ ∧ _ ∧ _ ∧ _ ∧ _ ∧ _ ∧ _ := ⟨hT 3, hT 5, hT 6, hT 7, hT 8, hT 9, hT 10, hT 11, hT 12, hT 13, hT 41, hT 42, hT 45, hT 46, hT 47, hT 48, hT 49, hT 50, hT 51, hT 52, hT 53, hT 54, hT 55, hT 56, hT 57, hT 65, hT 66, hT 67, hT 68, hT 69, hT 70, hT 71, hT 72, hT 73, hT 74, hT 75, hT 76, hT 77, hT 78⟩
     simp only [Fact.G, Nat.reduceEqDiff, Nat.reduceLT, reduceIte, hf.size, s3, s5, s6, s7, s8, s9, s11, s12, s13, s41, s42, s45, s46, s47, s48, s49, s50, s51, s52, s53, s54, s55, s56, s57, s65, s66, s67, s68, s69, s70, s71, s72, s73, s74, s75, s76, s77, s78] at hKp
     clear hT hf s3 s5 s6 s7 s8 s9 s10 s11 s12 s13 s41 s42 s45 s46 s47 s48 s49 s50 s51 s52 s53 s54 s55 s56 s57 s65 s66 s67 s68 s69 s70 s71 s72 s73 s74 s75 s76 s77 s78
     obtain ⟨s3, s5, s6, s7, s8, s9, s10, s11, s12, s13, s41, s42, s45, s46, s47, s48, s49, s50, s51, s52, s53, s54, s55, s56, s57, s65, s66, s67, s68, s69, s70, s71, s72, s73, s74, s75, s76, s77, s78⟩ := hKp
     have hf := hf1; clear hf1
     refine Fact.block_normal ?_
     refine Fact.then_normal ?_
     refine hK15 _ _ ?_
     refine Fact.region ?_
     have b43 := hf.l 43 rfl
     have b44 := hf.l 44 rfl
     refine Fact.p rfl fun K hK => ?_
     go_simp
     refine hK.out _ _ ?_; clear hK K
     refine Fact.p rfl fun K hK => ?_
     go_simp
     try simp (disch := omega) only [Fact.wrap_i64, Fact.wrap_u8, Fact.wrap_u32, Fact.wrap_u64]
     refine hK.out _ _ ?_; clear hK K
     refine Fact.p rfl fun K hK => ?_
     go_simp
     refine hK.out _ _ ?_; clear hK K
     refine Fact.nil ?_
     refine Fact.reQ (n := 114) (by simp only [Fact.G, hf.size]) hf.defers (fun fr1 hf1 hT => ?_)
     have hKp : _ ∧ _ ∧ _ ∧ _ ∧ _ ∧ _ ∧ _ ∧ _ ∧ _ ∧ _ ∧ _ ∧ _ ∧ _ ∧ _ ∧ _ ∧ _ ∧ _ ∧ _ ∧ _ ∧ _ ∧ _ ∧ _ ∧ _ ∧ _ ∧ _ ∧ _ ∧ _ ∧ _ ∧ _ ∧ _ ∧ _ ∧ _ ∧ _ ∧ _ ∧ _ ∧ _ ∧ _ ∧ _ ∧ _ ∧ _ ∧ _ := ⟨hT 3, hT 5, hT 6, hT 7, hT 8, hT 9, hT 10, hT 11, hT 12, hT 13, hT 41, hT 42, hT 43, hT 44, hT 45, hT 46, hT 47, hT 48, hT 49, hT 50, hT 51, hT 52, hT 53, hT 54, hT 55, hT 56, hT 57, hT 65, hT 66, hT 67, hT 68, hT 69, hT 70, hT 71, hT 72, hT 73, hT 74, hT 75, hT 76, hT 77, hT 78⟩
     simp only [Fact.G, Nat.reduceEqDiff, Nat.reduceLT, reduceIte, hf.size, s3, s5, s6, s7, s8, s9, s10, s12, s13, s41, s42, s45, s46, s47, s48, s49, s50, s51, s52, s53, s54, s55, s56, s57, s65, s66, s67, s68, s69, s70, s71, s72, s73, s74, s75, s76, s77, s78] at hKp
     clear hT hf s3 s5 s6 s7 s8 s9 s10 s11 s12 s13 s41 s42 s45 s46 s47 s48 s49 s50 s51 s52 s53 s54 s55 s56 s57 s65 s66 s67 s68 s69 s70 s71 s72 s73 s74 s75 s76 s77 s78 b43 b44
     obtain ⟨s3, s5, s6, s7, s8, s9, s10, s11, s12, s13, s41, s42, s43, s44, s45, s46, s47, s48, s49, s50, s51, s52, s53, s54, s55, s56, s57, s65, s66, s67, s68, s69, s70, s71, s72, s73, s74, s75, s76, s77, s78⟩ := hKp
     have hf := hf1; clear hf1
     refine Fact.then_normal ?_
     exact ⟨_, by have := HK.out; omega, b + 1, V, true, rfl, by omega, fun _ => rfl, (fun h => by cases h), hf, s3, s5, s6, s7, s8, s9, s10, by rw [s11]; rfl, hbr.trans ((hb9.trans (h10.mono hb9.size)).mono hbr.size)⟩
   ·
    have hbl : b ∈ l := of_decide_eq_true hm
    refine wp_skip ?_
    refine Fact.then_normal ?_
    refine hK13 _ _ ?_
    refine wp_seq_k (fun K26 hK26 => ?_)
    refine wp_block ?_
    refine wp_seq_k (fun K27 hK27 => ?_)
    refine Fact.region ?_
    have b45 := hf.l 45 rfl
    have b46 := hf.l 46 rfl
    have b47 := hf.l 47 rfl
    have b48 := hf.l 48 rfl
    have b49 := hf.l 49 rfl
    have b50 := hf.l 50 rfl
    have b51 := hf.l 51 rfl
    refine Fact.p rfl fun K hK => ?_
    go_simp
    refine hK.out _ _ ?_; clear hK K
    refine Fact.p rfl fun K hK => ?_
    go_simp
    refine hK.out _ _ ?_; clear hK K
    refine Fact.p rfl fun K hK => ?_
    go_simp
    refine hK.out _ _ ?_; clear hK K
    refine Fact.p rfl fun K hK => ?_
    go_simp
    refine hK.out _ _ ?_; clear hK K
    refine Fact.p rfl fun K hK => ?_
    go_simp
    refine hK.out _ _ ?_; clear hK K
    refine Fact.p rfl fun K hK => ?_
    go_simp
    refine hK.out _ _ ?_; clear hK K
    refine Fact.p rfl fun K hK => ?_
    go_simp
    go_at_call 25; refine (Try.strings_Contains_one (strOf l) (UInt8.ofNat b) _).mono ?_; rintro e w8 ⟨rfl, rfl⟩
    rw [index_row HLLT.out hbt, hm]
    dsimp only
    refine hK.out _ _ ?_; clear hK K
    refine Fact.p rfl fun K hK => ?_
    go_simp
    refine hK.out _ _ ?_; clear hK K
    refine Fact.nil ?_
    refine Fact.reQ (n := 114) (by simp only [Fact.G, hf.size]) hf.defers (fun fr1 hf1 hT => ?_)
    have hKp : _ ∧ _ ∧ _ ∧ _ ∧ _ ∧ _ ∧ _ ∧ _ ∧ _ ∧ _ ∧ _ ∧ _ ∧ _ ∧ _ ∧ _ ∧ _ ∧ _ ∧ _ := ⟨hT 3, hT 5, hT 6, hT 7, hT 8, hT 9, hT 10, hT 11, hT 12, hT 41, hT 42, hT 45, hT 46, hT 47, hT 48, hT 49, hT 50, hT 51⟩
    simp only [Fact.G, Nat.reduceEqDiff, Nat.reduceLT, reduceIte, hf.size, s3, s5, s6, s7, s8, s9, s10, s11, s41, s42] at hKp
    clear hT hf s3 s5 s6 s7 s8 s9 s10 s11 s41 s42 b45 b46 b47 b48 b49 b50 b51
    obtain ⟨s3, s5, s6, s7, s8, s9, s10, s11, s12, s41, s42, s45, s46, s47, s48, s49, s50, s51⟩ := hKp
    have hf := hf1; clear hf1
    refine Fact.then_normal ?_
    refine hK27 _ _ ?_
    refine wp_seq_k (fun K28 hK28 => ?_)
    refine Fact.region ?_
    have b52 := hf.l 52 rfl
    have b53 := hf.l 53 rfl
    have b54 := hf.l 54 rfl
    have b55 := hf.l 55 rfl
    have b56 := hf.l 56 rfl
    refine Fact.p rfl fun K hK => ?_
    go_simp
    refine hK.out _ _ ?_; clear hK K
    refine Fact.p rfl fun K hK => ?_
    go_simp
    refine hK.out _ _ ?_; clear hK K
    refine Fact.p rfl fun K hK => ?_
    go_simp
    refine hK.out _ _ ?_; clear hK K
    refine Fact.p rfl fun K hK => ?_
    go_simp
    refine hK.out _ _ ?_; clear hK K
    refine Fact.p rfl fun K hK => ?_
    go_simp
    go_at_call 16; refine (step16 (wr.alloc (.cells #[.int .u8 (b : Int)] 5)) g q k (hAr.later hb13) S b).mono ?_; rintro e w9 ⟨rfl, h9⟩
    dsimp only
    refine hK.out _ _ ?_; clear hK K
    refine Fact.p rfl fun K hK => ?_
    go_simp
    refine hK.out _ _ ?_; clear hK K
    refine Fact.nil ?_
    refine Fact.reQ (n := 114) (by simp only [Fact.G, hf.size]) hf.defers (fun fr1 hf1 hT => ?_)
    have hKp : _ ∧ _ ∧ _ ∧ _ ∧ _ ∧ _ ∧ _ ∧ _ ∧ _ ∧ _ ∧ _ ∧ _ ∧ _ ∧ _ ∧ _ ∧ _ ∧ _ ∧ _ ∧ _ ∧ _ ∧ _ ∧ _ ∧ _ ∧ _ := ⟨hT 3, hT 5, hT 6, hT 7, hT 8, hT 9, hT 10, hT 11, hT 12, hT 13, hT 41, hT 42, hT 45, hT 46, hT 47, hT 48, hT 49, hT 50, hT 51, hT 52, hT 53, hT 54, hT 55, hT 56⟩
    simp only [Fact.G, Nat.reduceEqDiff, Nat.reduceLT, reduceIte, hf.size, s3, s5, s6, s7, s8, s9, s10, s11, s12, s41, s42, s45, s46, s47, s48, s49, s50, s51] at hKp
    clear hT hf s3 s5 s6 s7 s8 s9 s10 s11 s12 s41 s42 s45 s46 s47 s48 s49 s50 s51 b52 b53 b54 b55 b56
    obtain ⟨s3, s5, s6, s7, s8, s9, s10, s11, s12, s13, s41, s42, s45, s46, s47, s48, s49, s50, s51, s52, s53, s54, s55, s56⟩ := hKp
    have hf := hf1; clear hf1
    refine Fact.then_normal ?_
    refine hK28 _ _ ?_
    refine wp_seq_k (fun K29 hK29 => ?_)
    refine wp_seq_k (fun K30 hK30 => ?_)
    refine Fact.region ?_
    refine Fact.p rfl fun K hK => ?_
    go_simp
    refine hK.out _ _ ?_; clear hK K
    refine Fact.nil ?_
    refine Fact.reQ (n := 114) (by simp only [Fact.G, hf.size]) hf.defers (fun fr1 hf1 hT => ?_)
    have hKp : _ ∧ _ ∧ _ ∧ _ ∧ _ ∧ _ ∧ _ ∧ _ ∧ _ ∧ _ ∧ _ ∧ _ ∧ _ ∧ _ ∧ _ ∧ _ ∧ _ ∧ _ ∧ _ ∧ _ ∧ _ ∧ _ ∧ _ ∧ _ ∧ _ := ⟨hT 3, hT 5, hT 6, hT 7, hT 8, hT 9, hT 10, hT 11, hT 12, hT 13, hT 41, hT 42, hT 45, hT 46, hT 47, hT 48, hT 49, hT 50, hT 51, hT 52, hT 53, hT 54, hT 55, hT 56, hT 57⟩
    simp only [Fact.G, Nat.reduceEqDiff, Nat.reduceLT, reduceIte, hf.size, s3, s5, s6, s7, s8, s9, s10, s11, s12, s13, s41, s42, s45, s46, s47, s48, s49, s50, s51, s52, s53, s54, s55, s56] at hKp
    clear hT hf s3 s5 s6 s7 s8 s9 s10 s11 s12 s13 s41 s42 s45 s46 s47 s48 s49 s50 s51 s52 s53 s54 s55 s56
    obtain ⟨s3, s5, s6, s7, s8, s9, s10, s11, s12, s13, s41, s42, s45, s46, s47, s48, s49, s50, s51, s52, s53, s54, s55, s56, s57⟩ := hKp
    have hf := hf1; clear hf1
    refine Fact.then_normal ?_
    refine hK30 _ _ ?_
    refine Fact.cond_t s57 ?_
    have hb9 := hb13.trans (h9.mono hb13.size)
    have hco2 := conv_one w9 b
    have hb16 : Below w9.heap.size w9 (w9.alloc (.cells #[.int .u8 (b : Int)] 5)) := (Below.refl _ _).alloc (Nat.le_refl _) _
    refine wp_seq_k (fun K31 hK31 => ?_)
    refine wp_seq_k (fun K32 hK32 => ?_)
    refine Fact.region ?_
    have b58 := hf.l 58 rfl
    have b59 := hf.l 59 rfl
    have b60 := hf.l 60 rfl
    have b61 := hf.l 61 rfl
    have b62 := hf.l 62 rfl
    have b63 := hf.l 63 rfl
    refine Fact.p rfl fun K hK => ?_
    go_simp
    refine hK.out _ _ ?_; clear hK K
    refine Fact.p rfl fun K hK => ?_
    go_simp
    refine hK.out _ _ ?_; clear hK K
    refine Fact.p rfl fun K hK => ?_
    go_simp
    refine hK.out _ _ ?_; clear hK K
    refine Fact.p rfl fun K hK => ?_
    go_simp
    refine hK.out _ _ ?_; clear hK K
    refine Fact.p rfl fun K hK => ?_
    go_simp
    refine hK.out _ _ ?_; clear hK K
    refine Fact.p rfl fun K hK => ?_
    go_simp
    go_at_call 25; refine (Try.strings_Contains_one q (UInt8.ofNat b) _).mono ?_; rintro e w11 ⟨rfl, rfl⟩
    rw [index_text hbt, ((HMEM.out b).1 hbl).2.1]
    dsimp only
    refine hK.out _ _ ?_; clear hK K
    refine Fact.p rfl fun K hK => ?_
    go_simp
    refine hK.out _ _ ?_; clear hK K
    refine Fact.nil ?_
    refine Fact.reQ (n := 114) (by simp only [Fact.G, hf.size]) hf.defers (fun fr1 hf1 hT => ?_)
    have hKp : _ ∧ _ ∧ _ ∧ _ ∧ _ ∧ _ ∧ _ ∧ _ ∧ _ ∧ _ ∧ _ ∧ _ ∧ _ ∧ _ ∧ _ ∧ _ ∧ _ ∧ _ ∧ _ ∧ _ ∧ _ ∧ _ ∧ _ ∧ _ ∧ _ ∧ _ ∧ _ ∧ _ ∧ _ ∧ _ ∧ _ ∧ _ := ⟨hT 3, hT 5, hT 6, hT 7, hT 8, hT 9, hT 10, hT 11, hT 12, hT 13, hT 41, hT 42, hT 45, hT 46, hT 47, hT 48, hT 49, hT 50, hT 51, hT 52, hT 53, hT 54, hT 55, hT 56, hT 57, hT 58, hT 59, hT 60, hT 61, hT 62, hT 63, hT 64⟩
    simp only [Fact.G, Nat.reduceEqDiff, Nat.reduceLT, reduceIte, hf.size, s3, s5, s6, s7, s8, s9, s10, s11, s12, s13, s41, s42, s45, s46, s47, s48, s49, s50, s51, s52, s53, s54, s55, s56, s57] at hKp
    clear hT hf s3 s5 s6 s7 s8 s9 s10 s11 s12 s13 s41 s42 s45 s46 s47 s48 s49 s50 s51 s52 s53 s54 s55 s56 s57 b58 b59 b60 b61 b62 b63
    obtain ⟨s3, s5, s6, s7, s8, s9, s10, s11, s12, s13, s41, s42, s45, s46, s47, s48, s49, s50, s51, s52, s53, s54, s55, s56, s57, s58, s59, s60, s61, s62, s63, s64⟩ := hKp
    have hf := hf1; clear hf1
    refine Fact.then_normal ?_
    refine hK32 _ _ ?_
    try simp only [Bool.not_true] at s64
    refine Fact.cond_f s64 ?_
    refine wp_skip ?_
    refine Fact.then_normal ?_
    refine hK31 _ _ ?_
    refine wp_exit ?_
    refine Fact.then_exit ?_
    refine Fact.block_exit ?_
    refine Fact.then_normal ?_
    refine hK26 _ _ ?_
    refine Fact.region ?_
    have b43 := hf.l 43 rfl
    have b44 := hf.l 44 rfl
    refine Fact.p rfl fun K hK => ?_
    go_simp
    refine hK.out _ _ ?_; clear hK K
    refine Fact.p rfl fun K hK => ?_
    go_simp
    try simp (disch := omega) only [Fact.wrap_i64, Fact.wrap_u8, Fact.wrap_u32, Fact.wrap_u64]
    refine hK.out _ _ ?_; clear hK K
    refine Fact.p rfl fun K hK => ?_
    go_simp
    refine hK.out _ _ ?_; clear hK K
    refine Fact.nil ?_
    refine Fact.reQ (n := 114) (by simp only [Fact.G, hf.size]) hf.defers (fun fr1 hf1 hT => ?_)
    have hKp : _ ∧ _ ∧ _ ∧ _ ∧ _ ∧ _ ∧ _ ∧ _ ∧ _ ∧ _ ∧ _ ∧ _ ∧ _ ∧ _ ∧ _ ∧ _ ∧ _ ∧ _ ∧ _ ∧ _ ∧ _ ∧ _ ∧ _ ∧ _ ∧ _ ∧ _ ∧ _ ∧ _ ∧ _ ∧ _ ∧ _ ∧ _ ∧ _ ∧ _ := ⟨hT 3, hT 5, hT 6, hT 7, hT 8, hT 9, hT 10, hT 11, hT 12, hT 13, hT 41, hT 42, hT 43, hT 44, hT 45, hT 46, hT 47, hT 48, hT 49, hT 50, hT 51, hT 52, hT 53, hT 54, hT 55, hT 56, hT 57, hT 58, hT 59, hT 60, hT 61, hT 62, hT 63, hT 64⟩
    simp only [Fact.G, Nat.reduceEqDiff, Nat.reduceLT, reduceIte, hf.size, s3, s5, s6, s7, s8, s9, s10, s12, s13, s41, s42, s45, s46, s47, s48, s49, s50, s51, s52, s53, s54, s55, s56, s57, s58, s59, s60, s61, s62, s63, s64] at hKp
    clear hT hf s3 s5 s6 s7 s8 s9 s10 s11 s12 s13 s41 s42 s45 s46 s47 s48 s49 s50 s51 s52 s53 s54 s55 s56 s57 s58 s59 s60 s61 s62 s63 s64 b43 b44
    obtain ⟨s3, s5, s6, s7, s8, s9, s10, s11, s12, s13, s41, s42, s43, s44, s45, s46, s47, s48, s49, s50, s51, s52, s53, s54, s55, s56, s57, s58, s59, s60, s61, s62, s63, s64⟩ := hKp
    have hf := hf1; clear hf1
    refine Fact.then_normal ?_
    exact ⟨_, by have := HK.out; omega, b + 1, X, seen, rfl, by omega, HX1.out, fun h => all_more (HX2.out h) hbl, hf, s3, s5, s6, s7, s8, s9, s10, by rw [s11]; rfl, hbr.trans ((hb9.trans (hb16.mono hb9.size)).mono hbr.size)⟩
  ·
   have hne : b = 256 := by have h9 := of_decide_eq_false hq; omega
   subst hne
   have hs1 : seen = true := by cases seen <;> first | exact absurd (HX2.out rfl) HALL.out | rfl
   subst hs1
   have hXV := HX1.out rfl
   subst hXV
   refine wp_exit ?_
   refine Fact.then_exit ?_
   refine Fact.then_exit ?_
   refine Fact.block_exit ?_
   refine Fact.then_normal ?_
   refine hK11 _ _ ?_
   refine wp_seq_k (fun K33 hK33 => ?_)
   refine wp_seq_k (fun K34 hK34 => ?_)
   refine Fact.region ?_
   refine Fact.p rfl fun K hK => ?_
   go_simp
   refine hK.out _ _ ?_; clear hK K
   refine Fact.nil ?_
   refine Fact.reQ (n := 114) (by simp only [Fact.G, hf.size]) hf.defers (fun fr1 hf1 hT => ?_)
   have hKp : _ ∧ _ ∧ _ ∧ _ ∧ _ ∧ _ := ⟨hT 5, hT 6, hT 7, hT 9, hT 10, hT 14⟩
   simp only [Fact.G, Nat.reduceEqDiff, Nat.reduceLT, reduceIte, hf.size, s5, s6, s7, s9, s10] at hKp
   clear hT hf s3 s5 s6 s7 s8 s9 s10 s11 s41 s42
   obtain ⟨s5, s6, s7, s9, s10, s14⟩ := hKp
   have hf := hf1; clear hf1
   refine Fact.then_normal ?_
   refine hK34 _ _ ?_
   refine wp_block ?_
   refine wp_loop_ghost (fun g2 fr wr2 => ∃ i : Nat, g2 = l.length - i ∧ i ≤ l.length ∧ Fact.Fr 114 fr ∧ fr.tmps[5]? = some (.pointer (some ⟨g, 0, none⟩)) ∧ fr.tmps[6]? = some (.string S) ∧ fr.tmps[7]? = some (.slice A7 l.length c7) ∧ fr.tmps[9]? = some (.string X) ∧ fr.tmps[10]? = some (.bool true) ∧ fr.tmps[14]? = some (.int .i64 i) ∧ Below wr.heap.size wr wr2) (l.length) ?_ ?_
   ·
    exact ⟨0, rfl, Nat.zero_le _, hf, s5, s6, s7, s9, s10, s14, Below.refl _ _⟩
   ·
    clear hf s5 s6 s7 s9 s10 s14
    rintro g2 fr wr2 ⟨i, hk2, hi2, hf, s5, s6, s7, s9, s10, s14, hb2⟩
    have HK2 := Lib.hid hk2; clear hk2
    refine wp_seq_k (fun K35 hK35 => ?_)
    refine wp_seq_k (fun K36 hK36 => ?_)
    refine Fact.region ?_
    have b79 := hf.l 79 rfl
    have b80 := hf.l 80 rfl
    have b81 := hf.l 81 rfl
    refine Fact.p rfl fun K hK => ?_
    go_simp
    refine hK.out _ _ ?_; clear hK K
    refine Fact.p rfl fun K hK => ?_
    go_simp
    refine hK.out _ _ ?_; clear hK K
    refine Fact.p rfl fun K hK => ?_
    go_simp
    refine hK.out _ _ ?_; clear hK K
    refine Fact.p rfl fun K hK => ?_
    go_simp
    refine hK.out _ _ ?_; clear hK K
    refine Fact.nil ?_
    refine Fact.reQ (n := 114) (by simp only [Fact.G, hf.size]) hf.defers (fun fr1 hf1 hT => ?_)
    have hKp : _ ∧ _ ∧ _ ∧ _ ∧ _ ∧ _ ∧ _ ∧ _ ∧ _ ∧ _ := ⟨hT 5, hT 6, hT 7, hT 9, hT 10, hT 14, hT 79, hT 80, hT 81, hT 82⟩
    simp only [Fact.G, Nat.reduceEqDiff, Nat.reduceLT, reduceIte, hf.size, s5, s6, s7, s9, s10, s14] at hKp
    clear hT hf s5 s6 s7 s9 s10 s14 b79 b80 b81
    obtain ⟨s5, s6, s7, s9, s10, s14, s79, s80, s81, s82⟩ := hKp
    have hf := hf1; clear hf1
    refine Fact.then_normal ?_
    refine hK36 _ _ ?_
    refine Fact.cond_s s82 (fun hq2 => ?_) (fun hq2 => ?_)
    ·
     have hlt : i < l.length := by have h9 := of_decide_eq_true hq2; omega
     obtain ⟨x, hx9⟩ : ∃ x, l[i]? = some x := ⟨_, List.getElem?_eq_getElem hlt⟩
     have hxl := (HMEM.out x).1 (List.mem_of_getElem? hx9)
     have hrow2 := (hrow7.later hbr).later hb2
     obtain ⟨ga, hga, hcx⟩ := hrow2.cell i x hx9
     have HROW2 := Lib.hid hrow2
     have hne : ((stepS q k S x).toList == X.toList) = false := by rw [bytes_beq]; exact decide_eq_false hxl.2.2
     rcases hi0 : i with _ | p
     ·
      subst hi0
      rw [hga] at s7
      have HX9 := Lib.hid hx9; have HGA := Lib.hid hga; clear hx9 hga
      refine wp_skip ?_
      refine Fact.then_normal ?_
      refine hK35 _ _ ?_
      refine wp_seq_k (fun K37 hK37 => ?_)
      refine wp_block ?_
      refine wp_seq_k (fun K38 hK38 => ?_)
      refine Stab.todo_begin (n := 114) (Stab.OkOps.of (by kernel_rfl)) (fun hok => ?_)
      refine Stab.mvO (k := 0) s10 hf.size hok.out rfl rfl rfl (.inl rfl) (by kernel_rfl) ?_
      refine Stab.mvN (k := 1) (j := 0) (m := 0) hf.size hok.out rfl rfl rfl (.inl rfl) rfl [] (by kernel_rfl) rfl rfl rfl ?_
      apply Stab.t 2 _ hf.size hok.out rfl
      ·
       intro fr1 w1 hh hd hk K hK
       have s86 := Stab.u 1 0 hd hk rfl [] (by kernel_rfl) rfl rfl rfl
       refine Stab.op_guard (o := _) rfl rfl rfl rfl s86 ?_
       have s5 := Stab.o hh (by kernel_rfl) s5
       clear hd
       go_simp
       exact hK.out _ rfl _ _ (Below.refl _ _) rfl
      apply Stab.t 3 _ hf.size hok.out rfl
      ·
       intro fr1 w1 hh hd hk K hK
       have s86 := Stab.u 1 1 hd hk rfl [] (by kernel_rfl) rfl rfl rfl
       refine Stab.op_guard (o := _) rfl rfl rfl rfl s86 ?_
       have s6 := Stab.o hh (by kernel_rfl) s6
       clear hd
       go_simp
       exact hK.out _ rfl _ _ (Below.refl _ _) rfl
      apply Stab.t 4 _ hf.size hok.out rfl
      ·
       intro fr1 w1 hh hd hk K hK
       have s86 := Stab.u 1 2 hd hk rfl [] (by kernel_rfl) rfl rfl rfl
       refine Stab.op_guard (o := _) rfl rfl rfl rfl s86 ?_
       have s7 := Stab.o hh (by kernel_rfl) s7
       clear hd
       go_simp
       exact hK.out _ rfl _ _ (Below.refl _ _) rfl
      apply Stab.t 5 _ hf.size hok.out rfl
      ·
       intro fr1 w1 hh hd hk K hK
       have s86 := Stab.u 1 3 hd hk rfl [] (by kernel_rfl) rfl rfl rfl
       refine Stab.op_guard (o := _) rfl rfl rfl rfl s86 ?_
       have s14 := Stab.o hh (by kernel_rfl) s14
       clear hd
       go_simp
       exact hK.out _ rfl _ _ (Below.refl _ _) rfl
      apply Stab.t 6 _ hf.size hok.out rfl
      ·
       intro fr1 w1 hh hd hk K hK
       have s86 := Stab.u 1 4 hd hk rfl [] (by kernel_rfl) rfl rfl rfl
       refine Stab.op_guard (o := _) rfl rfl rfl rfl s86 ?_
       have s89 := Stab.u 4 1 hd hk rfl [] (by kernel_rfl) rfl rfl rfl
       have s90 := Stab.u 5 0 hd hk rfl [] (by kernel_rfl) rfl rfl rfl
       clear hd
       go_simp
       try rw [if_pos (by omega)]
       exact hK.out _ rfl _ _ (Below.refl _ _) rfl
      apply Stab.t 7 _ hf.size hok.out rfl
      ·
       intro fr1 w1 hh hd hk K hK
       have s86 := Stab.u 1 5 hd hk rfl [] (by kernel_rfl) rfl rfl rfl
       refine Stab.op_guard (o := _) rfl rfl rfl rfl s86 ?_
       have s91 := Stab.u 6 0 hd hk rfl [] (by kernel_rfl) rfl rfl rfl
       clear hd
       have u0 := cell_later hh.ext hcx
       go_simp
       exact hK.out _ rfl _ _ (Below.refl _ _) rfl
      apply Stab.t 8 _ hf.size hok.out rfl
      ·
       intro fr1 w1 hh hd hk K hK
       have s86 := Stab.u 1 6 hd hk rfl [] (by kernel_rfl) rfl rfl rfl
       refine Stab.op_guard (o := _) rfl rfl rfl rfl s86 ?_
       have s87 := Stab.u 2 5 hd hk rfl [] (by kernel_rfl) rfl rfl rfl
       have s88 := Stab.u 3 4 hd hk rfl [] (by kernel_rfl) rfl rfl rfl
       have s92 := Stab.u 7 0 hd hk rfl [] (by kernel_rfl) rfl rfl rfl
       clear hd
       go_simp
       go_at_call 16; refine (step16 w1 g q k (((hA7.later hbr).later hb2).later hh.ext) S x).mono ?_; rintro e w2 ⟨rfl, hb⟩
       exact hK.out _ rfl _ _ hb rfl
      apply Stab.t 9 _ hf.size hok.out rfl
      ·
       intro fr1 w1 hh hd hk K hK
       have s86 := Stab.u 1 7 hd hk rfl [] (by kernel_rfl) rfl rfl rfl
       refine Stab.op_guard (o := _) rfl rfl rfl rfl s86 ?_
       have s9 := Stab.o hh (by kernel_rfl) s9
       clear hd
       go_simp
       exact hK.out _ rfl _ _ (Below.refl _ _) rfl
      apply Stab.t 10 _ hf.size hok.out rfl
      ·
       intro fr1 w1 hh hd hk K hK
       have s86 := Stab.u 1 8 hd hk rfl [] (by kernel_rfl) rfl rfl rfl
       refine Stab.op_guard (o := _) rfl rfl rfl rfl s86 ?_
       have s93 := Stab.u 8 1 hd hk rfl [] (by kernel_rfl) rfl rfl rfl
       have s94 := Stab.u 9 0 hd hk rfl [] (by kernel_rfl) rfl rfl rfl
       clear hd
       go_simp
       try rw [hne]
       exact hK.out _ rfl _ _ (Below.refl _ _) rfl
      apply Stab.t 11 _ hf.size hok.out rfl
      ·
       intro fr1 w1 hh hd hk K hK
       refine Stab.op_plain (o := _) rfl rfl ?_
       have s86 := Stab.u 1 9 hd hk rfl [] (by kernel_rfl) rfl rfl rfl
       have s95 := Stab.u 10 0 hd hk rfl [] (by kernel_rfl) rfl rfl rfl
       clear hd
       go_simp
       exact hK.out _ rfl _ _ (Below.refl _ _) rfl
      refine Stab.mvN (k := 12) (j := 11) (m := 0) hf.size hok.out rfl rfl rfl (.inl rfl) rfl [] (by kernel_rfl) rfl rfl rfl ?_
      apply Stab.t 13 _ hf.size hok.out rfl
      ·
       intro fr1 w1 hh hd hk K hK
       have s97 := Stab.u 12 0 hd hk rfl [] (by kernel_rfl) rfl rfl rfl
       refine Stab.op_guard (o := _) rfl rfl rfl rfl s97 ?_
       have s14 := Stab.o hh (by kernel_rfl) s14
       clear hd
       go_simp
       exact hK.out _ rfl _ _ (Below.refl _ _) rfl
      apply Stab.t 14 _ hf.size hok.out rfl
      ·
       intro fr1 w1 hh hd hk K hK
       have s97 := Stab.u 12 1 hd hk rfl [] (by kernel_rfl) rfl rfl rfl
       refine Stab.op_guard (o := _) rfl rfl rfl rfl s97 ?_
       have s98 := Stab.u 13 0 hd hk rfl [] (by kernel_rfl) rfl rfl rfl
       clear hd
       go_simp
       exact hK.out _ rfl _ _ (Below.refl _ _) rfl
      apply Stab.t 15 _ hf.size hok.out rfl
      ·
       intro fr1 w1 hh hd hk K hK
       have s97 := Stab.u 12 2 hd hk rfl [] (by kernel_rfl) rfl rfl rfl
       refine Stab.op_guard (o := _) rfl rfl rfl rfl s97 ?_
       have s99 := Stab.u 14 0 hd hk rfl [] (by kernel_rfl) rfl rfl rfl
       clear hd
       go_simp
       exact hK.out _ rfl _ _ (Below.refl _ _) rfl
      apply Stab.t 16 _ hf.size hok.out rfl
      ·
       intro fr1 w1 hh hd hk K hK
       have s100 := Stab.u 15 0 hd hk rfl [] (by kernel_rfl) rfl rfl rfl
       refine Stab.op_skip (o := _) rfl rfl rfl rfl s100 ?_
       exact hK.out _ rfl _ _ (Below.refl _ _) rfl
      apply Stab.t 17 _ hf.size hok.out rfl
      ·
       intro fr1 w1 hh hd hk K hK
       have s100 := Stab.u 15 1 hd hk rfl [] (by kernel_rfl) rfl rfl rfl
       refine Stab.op_skip (o := _) rfl rfl rfl rfl s100 ?_
       exact hK.out _ rfl _ _ (Below.refl _ _) rfl
      apply Stab.t 18 _ hf.size hok.out rfl
      ·
       intro fr1 w1 hh hd hk K hK
       have s100 := Stab.u 15 2 hd hk rfl [] (by kernel_rfl) rfl rfl rfl
       refine Stab.op_skip (o := _) rfl rfl rfl rfl s100 ?_
       exact hK.out _ rfl _ _ (Below.refl _ _) rfl
      apply Stab.t 19 _ hf.size hok.out rfl
      ·
       intro fr1 w1 hh hd hk K hK
       have s100 := Stab.u 15 3 hd hk rfl [] (by kernel_rfl) rfl rfl rfl
       refine Stab.op_skip (o := _) rfl rfl rfl rfl s100 ?_
       exact hK.out _ rfl _ _ (Below.refl _ _) rfl
      apply Stab.t 20 _ hf.size hok.out rfl
      ·
       intro fr1 w1 hh hd hk K hK
       have s100 := Stab.u 15 4 hd hk rfl [] (by kernel_rfl) rfl rfl rfl
       refine Stab.op_skip (o := _) rfl rfl rfl rfl s100 ?_
       exact hK.out _ rfl _ _ (Below.refl _ _) rfl
      apply Stab.t 21 _ hf.size hok.out rfl
      ·
       intro fr1 w1 hh hd hk K hK
       have s100 := Stab.u 15 5 hd hk rfl [] (by kernel_rfl) rfl rfl rfl
       refine Stab.op_skip (o := _) rfl rfl rfl rfl s100 ?_
       exact hK.out _ rfl _ _ (Below.refl _ _) rfl
      apply Stab.t 22 _ hf.size hok.out rfl
      ·
       intro fr1 w1 hh hd hk K hK
       have s100 := Stab.u 15 6 hd hk rfl [] (by kernel_rfl) rfl rfl rfl
       refine Stab.op_skip (o := _) rfl rfl rfl rfl s100 ?_
       exact hK.out _ rfl _ _ (Below.refl _ _) rfl
      apply Stab.t 23 _ hf.size hok.out rfl
      ·
       intro fr1 w1 hh hd hk K hK
       have s100 := Stab.u 15 7 hd hk rfl [] (by kernel_rfl) rfl rfl rfl
       refine Stab.op_skip (o := _) rfl rfl rfl rfl s100 ?_
       exact hK.out _ rfl _ _ (Below.refl _ _) rfl
      apply Stab.t 24 _ hf.size hok.out rfl
      ·
       intro fr1 w1 hh hd hk K hK
       have s100 := Stab.u 15 8 hd hk rfl [] (by kernel_rfl) rfl rfl rfl
       refine Stab.op_skip (o := _) rfl rfl rfl rfl s100 ?_
       exact hK.out _ rfl _ _ (Below.refl _ _) rfl
      apply Stab.t 25 _ hf.size hok.out rfl
      ·
       intro fr1 w1 hh hd hk K hK
       have s100 := Stab.u 15 9 hd hk rfl [] (by kernel_rfl) rfl rfl rfl
       refine Stab.op_skip (o := _) rfl rfl rfl rfl s100 ?_
       exact hK.out _ rfl _ _ (Below.refl _ _) rfl
      apply Stab.t 26 _ hf.size hok.out rfl
      ·
       intro fr1 w1 hh hd hk K hK
       have s97 := Stab.u 12 13 hd hk rfl [] (by kernel_rfl) rfl rfl rfl
       refine Stab.op_guard (o := _) rfl rfl rfl rfl s97 ?_
       have s100 := Stab.u 15 10 hd hk rfl [] (by kernel_rfl) rfl rfl rfl
       have s110 := Stab.u 25 0 hd hk rfl [] (by kernel_rfl) rfl rfl rfl
       clear hd
       go_simp
       exact hK.out _ rfl _ _ (Below.refl _ _) rfl
      apply Stab.t 27 _ hf.size hok.out rfl
      ·
       intro fr1 w1 hh hd hk K hK
       refine Stab.op_plain (o := _) rfl rfl ?_
       have s97 := Stab.u 12 14 hd hk rfl [] (by kernel_rfl) rfl rfl rfl
       have s111 := Stab.u 26 0 hd hk rfl [] (by kernel_rfl) rfl rfl rfl
       clear hd
       go_simp
       exact hK.out _ rfl _ _ (Below.refl _ _) rfl
      refine Stab.todo_facts (n := 114) (by kernel_rfl) hf.size hok.out rfl (fun fr1 w1 hh hg => ?_)
      replace s5 := Stab.o hh (by kernel_rfl) s5
      replace s6 := Stab.o hh (by kernel_rfl) s6
      replace s7 := Stab.o hh (by kernel_rfl) s7
      replace s9 := Stab.o hh (by kernel_rfl) s9
      replace s10 := Stab.o hh (by kernel_rfl) s10
      replace s14 := Stab.o hh (by kernel_rfl) s14
      replace s79 := Stab.o hh (by kernel_rfl) s79
      replace s80 := Stab.o hh (by kernel_rfl) s80
      replace s81 := Stab.o hh (by kernel_rfl) s81
      replace s82 := Stab.o hh (by kernel_rfl) s82
      have s85 := Stab.e 0 27 hg rfl rfl rfl rfl
      have s86 := Stab.e 1 26 hg rfl rfl rfl rfl
      have s87 := Stab.e 2 25 hg rfl rfl rfl rfl
      have s88 := Stab.e 3 24 hg rfl rfl rfl rfl
      have s89 := Stab.e 4 23 hg rfl rfl rfl rfl
      have s90 := Stab.e 5 22 hg rfl rfl rfl rfl
      have s91 := Stab.e 6 21 hg rfl rfl rfl rfl
      have s92 := Stab.e 7 20 hg rfl rfl rfl rfl
      have s93 := Stab.e 8 19 hg rfl rfl rfl rfl
      have s94 := Stab.e 9 18 hg rfl rfl rfl rfl
      have s95 := Stab.e 10 17 hg rfl rfl rfl rfl
      have s96 := Stab.e 11 16 hg rfl rfl rfl rfl
      have s97 := Stab.e 12 15 hg rfl rfl rfl rfl
      have s98 := Stab.e 13 14 hg rfl rfl rfl rfl
      have s99 := Stab.e 14 13 hg rfl rfl rfl rfl
      have s100 := Stab.e 15 12 hg rfl rfl rfl rfl
      have s101 := Stab.e 16 11 hg rfl rfl rfl rfl
      have s102 := Stab.e 17 10 hg rfl rfl rfl rfl
      have s103 := Stab.e 18 9 hg rfl rfl rfl rfl
      have s104 := Stab.e 19 8 hg rfl rfl rfl rfl
      have s105 := Stab.e 20 7 hg rfl rfl rfl rfl
      have s106 := Stab.e 21 6 hg rfl rfl rfl rfl
      have s107 := Stab.e 22 5 hg rfl rfl rfl rfl
      have s108 := Stab.e 23 4 hg rfl rfl rfl rfl
      have s109 := Stab.e 24 3 hg rfl rfl rfl rfl
      have s110 := Stab.e 25 2 hg rfl rfl rfl rfl
      have s111 := Stab.e 26 1 hg rfl rfl rfl rfl
      have s112 := Stab.e 27 0 hg rfl rfl rfl rfl
      have hf1 : Fact.Fr 114 fr1 := ⟨hh.size.trans hf.size, hh.defers.trans hf.defers⟩
      have hx := hh.ext
      clear hg hh hf hok 
      have hf := hf1; clear hf1
      refine Fact.then_normal ?_
      refine hK38 _ _ ?_
      try simp only [Bool.false_eq_true] at s112
      refine Fact.cond_f s112 ?_
      refine wp_skip ?_
      refine Fact.block_normal ?_
      refine Fact.then_normal ?_
      refine hK37 _ _ ?_
      refine Fact.region ?_
      have b83 := hf.l 83 rfl
      have b84 := hf.l 84 rfl
      refine Fact.p rfl fun K hK => ?_
      go_simp
      refine hK.out _ _ ?_; clear hK K
      refine Fact.p rfl fun K hK => ?_
      go_simp
      try simp (disch := omega) only [Fact.wrap_i64, Fact.wrap_u8, Fact.wrap_u32, Fact.wrap_u64]
      refine hK.out _ _ ?_; clear hK K
      refine Fact.p rfl fun K hK => ?_
      go_simp
      refine hK.out _ _ ?_; clear hK K
      refine Fact.nil ?_
      refine Fact.reQ (n := 114) (by simp only [Fact.G, hf.size]) hf.defers (fun fr1 hf1 hT => ?_)
      have hKp : _ ∧ _ ∧ _ ∧ _ ∧ _ ∧ _ ∧ _ ∧ _ ∧ _ ∧ _ ∧ _ ∧ _ ∧ _ ∧ _ ∧ _ ∧ _ ∧ _ ∧ _ ∧ _ ∧ _ ∧ _ ∧ _ ∧ _ ∧ _ ∧ _ ∧ _ ∧ _ ∧ _ ∧ _ ∧ _ ∧ _ ∧ _ ∧ _ ∧ _ ∧ _ ∧ _ ∧ _ ∧ _ ∧ _ ∧ _ := ⟨hT 5, hT 6, hT 7, hT 9, hT 10, hT 14, hT 79, hT 80, hT 81, hT 82, hT 83, hT 84, hT 85, hT 86, hT 87, hT 88, hT 89, hT 90, hT 91, hT 92, hT 93, hT 94, hT 95, hT 96, hT 97, hT 98, hT 99, hT 100, hT 101, hT 102, hT 103, hT 104, hT 105, hT 106, hT 107, hT 108, hT 109, hT 110, hT 111, hT 112⟩
      simp only [Fact.G, Nat.reduceEqDiff, Nat.reduceLT, reduceIte, hf.size, s5, s6, s7, s9, s10, s79, s80, s81, s82, s85, s86, s87, s88, s89, s90, s91, s92, s93, s94, s95, s96, s97, s98, s99, s100, s101, s102, s103, s104, s105, s106, s107, s108, s109, s110, s111, s112] at hKp
      clear hT hf s5 s6 s7 s9 s10 s14 s79 s80 s81 s82 s85 s86 s87 s88 s89 s90 s91 s92 s93 s94 s95 s96 s97 s98 s99 s100 s101 s102 s103 s104 s105 s106 s107 s108 s109 s110 s111 s112 b83 b84
      obtain ⟨s5, s6, s7, s9, s10, s14, s79, s80, s81, s82, s83, s84, s85, s86, s87, s88, s89, s90, s91, s92, s93, s94, s95, s96, s97, s98, s99, s100, s101, s102, s103, s104, s105, s106, s107, s108, s109, s110, s111, s112⟩ := hKp
      have hf := hf1; clear hf1
      refine Fact.then_normal ?_
      exact ⟨_, by have := HK2.out; omega, _, rfl, hlt, hf, s5, s6, by rw [HGA.out]; exact s7, s9, s10, by rw [s14]; rfl, hb2.trans (hx.mono hb2.size)⟩
     ·
      subst hi0
      rw [hga] at s7
      obtain ⟨y, hy9⟩ : ∃ y, l[p]? = some y := ⟨_, List.getElem?_eq_getElem (by omega)⟩
      obtain ⟨gb, hgb, hcy⟩ := HROW2.out.cell p y hy9
      rw [hga] at hgb; injection hgb with hgb; injection hgb with hgb; subst hgb
      have hxy := rising_at HRIS.out hy9 hx9
      have e5 : IntKind.i64.wrap ((p : Int) + 1 - 1) = (p : Int) := by rw [Fact.wrap_i64 (by omega) (by omega)]; omega
      have q9 : decide (x ≤ y) = false := decide_eq_false (by omega)
      have HY := Lib.hid hy9; clear hy9
      have HX9 := Lib.hid hx9; have HGA := Lib.hid hga; clear hx9 hga
      refine wp_skip ?_
      refine Fact.then_normal ?_
      refine hK35 _ _ ?_
      refine wp_seq_k (fun K39 hK39 => ?_)
      refine wp_block ?_
      refine wp_seq_k (fun K40 hK40 => ?_)
      refine Stab.todo_begin (n := 114) (Stab.OkOps.of (by kernel_rfl)) (fun hok => ?_)
      refine Stab.mvO (k := 0) s10 hf.size hok.out rfl rfl rfl (.inl rfl) (by kernel_rfl) ?_
      refine Stab.mvN (k := 1) (j := 0) (m := 0) hf.size hok.out rfl rfl rfl (.inl rfl) rfl [] (by kernel_rfl) rfl rfl rfl ?_
      apply Stab.t 2 _ hf.size hok.out rfl
      ·
       intro fr1 w1 hh hd hk K hK
       have s86 := Stab.u 1 0 hd hk rfl [] (by kernel_rfl) rfl rfl rfl
       refine Stab.op_guard (o := _) rfl rfl rfl rfl s86 ?_
       have s5 := Stab.o hh (by kernel_rfl) s5
       clear hd
       go_simp
       exact hK.out _ rfl _ _ (Below.refl _ _) rfl
      apply Stab.t 3 _ hf.size hok.out rfl
      ·
       intro fr1 w1 hh hd hk K hK
       have s86 := Stab.u 1 1 hd hk rfl [] (by kernel_rfl) rfl rfl rfl
       refine Stab.op_guard (o := _) rfl rfl rfl rfl s86 ?_
       have s6 := Stab.o hh (by kernel_rfl) s6
       clear hd
       go_simp
       exact hK.out _ rfl _ _ (Below.refl _ _) rfl
      apply Stab.t 4 _ hf.size hok.out rfl
      ·
       intro fr1 w1 hh hd hk K hK
       have s86 := Stab.u 1 2 hd hk rfl [] (by kernel_rfl) rfl rfl rfl
       refine Stab.op_guard (o := _) rfl rfl rfl rfl s86 ?_
       have s7 := Stab.o hh (by kernel_rfl) s7
       clear hd
       go_simp
       exact hK.out _ rfl _ _ (Below.refl _ _) rfl
      apply Stab.t 5 _ hf.size hok.out rfl
      ·
       intro fr1 w1 hh hd hk K hK
       have s86 := Stab.u 1 3 hd hk rfl [] (by kernel_rfl) rfl rfl rfl
       refine Stab.op_guard (o := _) rfl rfl rfl rfl s86 ?_
       have s14 := Stab.o hh (by kernel_rfl) s14
       clear hd
       go_simp
       exact hK.out _ rfl _ _ (Below.refl _ _) rfl
      apply Stab.t 6 _ hf.size hok.out rfl
      ·
       intro fr1 w1 hh hd hk K hK
       have s86 := Stab.u 1 4 hd hk rfl [] (by kernel_rfl) rfl rfl rfl
       refine Stab.op_guard (o := _) rfl rfl rfl rfl s86 ?_
       have s89 := Stab.u 4 1 hd hk rfl [] (by kernel_rfl) rfl rfl rfl
       have s90 := Stab.u 5 0 hd hk rfl [] (by kernel_rfl) rfl rfl rfl
       clear hd
       go_simp
       try rw [if_pos (by omega)]
       exact hK.out _ rfl _ _ (Below.refl _ _) rfl
      apply Stab.t 7 _ hf.size hok.out rfl
      ·
       intro fr1 w1 hh hd hk K hK
       have s86 := Stab.u 1 5 hd hk rfl [] (by kernel_rfl) rfl rfl rfl
       refine Stab.op_guard (o := _) rfl rfl rfl rfl s86 ?_
       have s91 := Stab.u 6 0 hd hk rfl [] (by kernel_rfl) rfl rfl rfl
       clear hd
       have u0 := cell_later hh.ext hcx
       go_simp
       exact hK.out _ rfl _ _ (Below.refl _ _) rfl
      apply Stab.t 8 _ hf.size hok.out rfl
      ·
       intro fr1 w1 hh hd hk K hK
       have s86 := Stab.u 1 6 hd hk rfl [] (by kernel_rfl) rfl rfl rfl
       refine Stab.op_guard (o := _) rfl rfl rfl rfl s86 ?_
       have s87 := Stab.u 2 5 hd hk rfl [] (by kernel_rfl) rfl rfl rfl
       have s88 := Stab.u 3 4 hd hk rfl [] (by kernel_rfl) rfl rfl rfl
       have s92 := Stab.u 7 0 hd hk rfl [] (by kernel_rfl) rfl rfl rfl
       clear hd
       go_simp
       go_at_call 16; refine (step16 w1 g q k (((hA7.later hbr).later hb2).later hh.ext) S x).mono ?_; rintro e w2 ⟨rfl, hb⟩
       exact hK.out _ rfl _ _ hb rfl
      apply Stab.t 9 _ hf.size hok.out rfl
      ·
       intro fr1 w1 hh hd hk K hK
       have s86 := Stab.u 1 7 hd hk rfl [] (by kernel_rfl) rfl rfl rfl
       refine Stab.op_guard (o := _) rfl rfl rfl rfl s86 ?_
       have s9 := Stab.o hh (by kernel_rfl) s9
       clear hd
       go_simp
       exact hK.out _ rfl _ _ (Below.refl _ _) rfl
      apply Stab.t 10 _ hf.size hok.out rfl
      ·
       intro fr1 w1 hh hd hk K hK
       have s86 := Stab.u 1 8 hd hk rfl [] (by kernel_rfl) rfl rfl rfl
       refine Stab.op_guard (o := _) rfl rfl rfl rfl s86 ?_
       have s93 := Stab.u 8 1 hd hk rfl [] (by kernel_rfl) rfl rfl rfl
       have s94 := Stab.u 9 0 hd hk rfl [] (by kernel_rfl) rfl rfl rfl
       clear hd
       go_simp
       try rw [hne]
       exact hK.out _ rfl _ _ (Below.refl _ _) rfl
      apply Stab.t 11 _ hf.size hok.out rfl
      ·
       intro fr1 w1 hh hd hk K hK
       refine Stab.op_plain (o := _) rfl rfl ?_
       have s86 := Stab.u 1 9 hd hk rfl [] (by kernel_rfl) rfl rfl rfl
       have s95 := Stab.u 10 0 hd hk rfl [] (by kernel_rfl) rfl rfl rfl
       clear hd
       go_simp
       exact hK.out _ rfl _ _ (Below.refl _ _) rfl
      refine Stab.mvN (k := 12) (j := 11) (m := 0) hf.size hok.out rfl rfl rfl (.inl rfl) rfl [] (by kernel_rfl) rfl rfl rfl ?_
      apply Stab.t 13 _ hf.size hok.out rfl
      ·
       intro fr1 w1 hh hd hk K hK
       have s97 := Stab.u 12 0 hd hk rfl [] (by kernel_rfl) rfl rfl rfl
       refine Stab.op_guard (o := _) rfl rfl rfl rfl s97 ?_
       have s14 := Stab.o hh (by kernel_rfl) s14
       clear hd
       go_simp
       exact hK.out _ rfl _ _ (Below.refl _ _) rfl
      apply Stab.t 14 _ hf.size hok.out rfl
      ·
       intro fr1 w1 hh hd hk K hK
       have s97 := Stab.u 12 1 hd hk rfl [] (by kernel_rfl) rfl rfl rfl
       refine Stab.op_guard (o := _) rfl rfl rfl rfl s97 ?_
       have s98 := Stab.u 13 0 hd hk rfl [] (by kernel_rfl) rfl rfl rfl
       clear hd
       go_simp
       exact hK.out _ rfl _ _ (Below.refl _ _) rfl
      apply Stab.t 15 _ hf.size hok.out rfl
      ·
       intro fr1 w1 hh hd hk K hK
       have s97 := Stab.u 12 2 hd hk rfl [] (by kernel_rfl) rfl rfl rfl
       refine Stab.op_guard (o := _) rfl rfl rfl rfl s97 ?_
       have s99 := Stab.u 14 0 hd hk rfl [] (by kernel_rfl) rfl rfl rfl
       clear hd
       go_simp
       exact hK.out _ rfl _ _ (Below.refl _ _) rfl
      apply Stab.t 16 _ hf.size hok.out rfl
      ·
       intro fr1 w1 hh hd hk K hK
       have s100 := Stab.u 15 0 hd hk rfl [] (by kernel_rfl) rfl rfl rfl
       refine Stab.op_guard (o := _) rfl rfl rfl rfl s100 ?_
       have s7 := Stab.o hh (by kernel_rfl) s7
       clear hd
       go_simp
       exact hK.out _ rfl _ _ (Below.refl _ _) rfl
      apply Stab.t 17 _ hf.size hok.out rfl
      ·
       intro fr1 w1 hh hd hk K hK
       have s100 := Stab.u 15 1 hd hk rfl [] (by kernel_rfl) rfl rfl rfl
       refine Stab.op_guard (o := _) rfl rfl rfl rfl s100 ?_
       have s14 := Stab.o hh (by kernel_rfl) s14
       clear hd
       go_simp
       exact hK.out _ rfl _ _ (Below.refl _ _) rfl
      apply Stab.t 18 _ hf.size hok.out rfl
      ·
       intro fr1 w1 hh hd hk K hK
       have s100 := Stab.u 15 2 hd hk rfl [] (by kernel_rfl) rfl rfl rfl
       refine Stab.op_guard (o := _) rfl rfl rfl rfl s100 ?_
       have s101 := Stab.u 16 1 hd hk rfl [] (by kernel_rfl) rfl rfl rfl
       have s102 := Stab.u 17 0 hd hk rfl [] (by kernel_rfl) rfl rfl rfl
       clear hd
       go_simp
       try rw [if_pos (by omega)]
       exact hK.out _ rfl _ _ (Below.refl _ _) rfl
      apply Stab.t 19 _ hf.size hok.out rfl
      ·
       intro fr1 w1 hh hd hk K hK
       have s100 := Stab.u 15 3 hd hk rfl [] (by kernel_rfl) rfl rfl rfl
       refine Stab.op_guard (o := _) rfl rfl rfl rfl s100 ?_
       have s103 := Stab.u 18 0 hd hk rfl [] (by kernel_rfl) rfl rfl rfl
       clear hd
       have u0 := cell_later hh.ext hcx
       go_simp
       exact hK.out _ rfl _ _ (Below.refl _ _) rfl
      apply Stab.t 20 _ hf.size hok.out rfl
      ·
       intro fr1 w1 hh hd hk K hK
       have s100 := Stab.u 15 4 hd hk rfl [] (by kernel_rfl) rfl rfl rfl
       refine Stab.op_guard (o := _) rfl rfl rfl rfl s100 ?_
       have s7 := Stab.o hh (by kernel_rfl) s7
       clear hd
       go_simp
       exact hK.out _ rfl _ _ (Below.refl _ _) rfl
      apply Stab.t 21 _ hf.size hok.out rfl
      ·
       intro fr1 w1 hh hd hk K hK
       have s100 := Stab.u 15 5 hd hk rfl [] (by kernel_rfl) rfl rfl rfl
       refine Stab.op_guard (o := _) rfl rfl rfl rfl s100 ?_
       have s14 := Stab.o hh (by kernel_rfl) s14
       clear hd
       go_simp
       exact hK.out _ rfl _ _ (Below.refl _ _) rfl
      apply Stab.t 22 _ hf.size hok.out rfl
      ·
       intro fr1 w1 hh hd hk K hK
       have s100 := Stab.u 15 6 hd hk rfl [] (by kernel_rfl) rfl rfl rfl
       refine Stab.op_guard (o := _) rfl rfl rfl rfl s100 ?_
       have s106 := Stab.u 21 0 hd hk rfl [] (by kernel_rfl) rfl rfl rfl
       clear hd
       go_simp
       try simp (disch := omega) only [Fact.wrap_i64, Fact.wrap_u8, Fact.wrap_u32, Fact.wrap_u64]
       exact hK.out _ rfl _ _ (Below.refl _ _) rfl
      apply Stab.t 23 _ hf.size hok.out rfl
      ·
       intro fr1 w1 hh hd hk K hK
       have s100 := Stab.u 15 7 hd hk rfl [] (by kernel_rfl) rfl rfl rfl
       refine Stab.op_guard (o := _) rfl rfl rfl rfl s100 ?_
       have s105 := Stab.u 20 2 hd hk rfl [] (by kernel_rfl) rfl rfl rfl
       have s107 := Stab.u 22 0 hd hk rfl [] (by kernel_rfl) rfl rfl rfl
       clear hd
       go_simp
       try rw [if_pos (by omega)]
       exact hK.out _ rfl _ _ (Below.refl _ _) rfl
      apply Stab.t 24 _ hf.size hok.out rfl
      ·
       intro fr1 w1 hh hd hk K hK
       have s100 := Stab.u 15 8 hd hk rfl [] (by kernel_rfl) rfl rfl rfl
       refine Stab.op_guard (o := _) rfl rfl rfl rfl s100 ?_
       have s108 := Stab.u 23 0 hd hk rfl [] (by kernel_rfl) rfl rfl rfl
       clear hd
       have u0 := cell_later hh.ext hcy
       go_simp
       exact hK.out _ rfl _ _ (Below.refl _ _) rfl
      apply Stab.t 25 _ hf.size hok.out rfl
      ·
       intro fr1 w1 hh hd hk K hK
       have s100 := Stab.u 15 9 hd hk rfl [] (by kernel_rfl) rfl rfl rfl
       refine Stab.op_guard (o := _) rfl rfl rfl rfl s100 ?_
       have s104 := Stab.u 19 5 hd hk rfl [] (by kernel_rfl) rfl rfl rfl
       have s109 := Stab.u 24 0 hd hk rfl [] (by kernel_rfl) rfl rfl rfl
       clear hd
       go_simp
       try simp only [q9]
       exact hK.out _ rfl _ _ (Below.refl _ _) rfl
      apply Stab.t 26 _ hf.size hok.out rfl
      ·
       intro fr1 w1 hh hd hk K hK
       have s97 := Stab.u 12 13 hd hk rfl [] (by kernel_rfl) rfl rfl rfl
       refine Stab.op_guard (o := _) rfl rfl rfl rfl s97 ?_
       have s100 := Stab.u 15 10 hd hk rfl [] (by kernel_rfl) rfl rfl rfl
       have s110 := Stab.u 25 0 hd hk rfl [] (by kernel_rfl) rfl rfl rfl
       clear hd
       go_simp
       exact hK.out _ rfl _ _ (Below.refl _ _) rfl
      apply Stab.t 27 _ hf.size hok.out rfl
      ·
       intro fr1 w1 hh hd hk K hK
       refine Stab.op_plain (o := _) rfl rfl ?_
       have s97 := Stab.u 12 14 hd hk rfl [] (by kernel_rfl) rfl rfl rfl
       have s111 := Stab.u 26 0 hd hk rfl [] (by kernel_rfl) rfl rfl rfl
       clear hd
       go_simp
       exact hK.out _ rfl _ _ (Below.refl _ _) rfl
      refine Stab.todo_facts (n := 114) (by kernel_rfl) hf.size hok.out rfl (fun fr1 w1 hh hg => ?_)
      replace s5 := Stab.o hh (by kernel_rfl) s5
      replace s6 := Stab.o hh (by kernel_rfl) s6
      replace s7 := Stab.o hh (by kernel_rfl) s7
      replace s9 := Stab.o hh (by kernel_rfl) s9
      replace s10 := Stab.o hh (by kernel_rfl) s10
      replace s14 := Stab.o hh (by kernel_rfl) s14
      replace s79 := Stab.o hh (by kernel_rfl) s79
      replace s80 := Stab.o hh (by kernel_rfl) s80
      replace s81 := Stab.o hh (by kernel_rfl) s81
      replace s82 := Stab.o hh (by kernel_rfl) s82
      have s85 := Stab.e 0 27 hg rfl rfl rfl rfl
      have s86 := Stab.e 1 26 hg rfl rfl rfl rfl
      have s87 := Stab.e 2 25 hg rfl rfl rfl rfl
      have s88 := Stab.e 3 24 hg rfl rfl rfl rfl
      have s89 := Stab.e 4 23 hg rfl rfl rfl rfl
      have s90 := Stab.e 5 22 hg rfl rfl rfl rfl
      have s91 := Stab.e 6 21 hg rfl rfl rfl rfl
      have s92 := Stab.e 7 20 hg rfl rfl rfl rfl
      have s93 := Stab.e 8 19 hg rfl rfl rfl rfl
      have s94 := Stab.e 9 18 hg rfl rfl rfl rfl
      have s95 := Stab.e 10 17 hg rfl rfl rfl rfl
      have s96 := Stab.e 11 16 hg rfl rfl rfl rfl
      have s97 := Stab.e 12 15 hg rfl rfl rfl rfl
      have s98 := Stab.e 13 14 hg rfl rfl rfl rfl
      have s99 := Stab.e 14 13 hg rfl rfl rfl rfl
      have s100 := Stab.e 15 12 hg rfl rfl rfl rfl
      have s101 := Stab.e 16 11 hg rfl rfl rfl rfl
      have s102 := Stab.e 17 10 hg rfl rfl rfl rfl
      have s103 := Stab.e 18 9 hg rfl rfl rfl rfl
      have s104 := Stab.e 19 8 hg rfl rfl rfl rfl
      have s105 := Stab.e 20 7 hg rfl rfl rfl rfl
      have s106 := Stab.e 21 6 hg rfl rfl rfl rfl
      have s107 := Stab.e 22 5 hg rfl rfl rfl rfl
      have s108 := Stab.e 23 4 hg rfl rfl rfl rfl
      have s109 := Stab.e 24 3 hg rfl rfl rfl rfl
      have s110 := Stab.e 25 2 hg rfl rfl rfl rfl
      have s111 := Stab.e 26 1 hg rfl rfl rfl rfl
      have s112 := Stab.e 27 0 hg rfl rfl rfl rfl
      have hf1 : Fact.Fr 114 fr1 := ⟨hh.size.trans hf.size, hh.defers.trans hf.defers⟩
      have hx := hh.ext
      clear hg hh hf hok 
      have hf := hf1; clear hf1
      refine Fact.then_normal ?_
      refine hK40 _ _ ?_
      try simp only [Bool.false_eq_true] at s112
      refine Fact.cond_f s112 ?_
      refine wp_skip ?_
      refine Fact.block_normal ?_
      refine Fact.then_normal ?_
      refine hK39 _ _ ?_
      refine Fact.region ?_
      have b83 := hf.l 83 rfl
      have b84 := hf.l 84 rfl
      refine Fact.p rfl fun K hK => ?_
      go_simp
      refine hK.out _ _ ?_; clear hK K
      refine Fact.p rfl fun K hK => ?_
      go_simp
      try simp (disch := omega) only [Fact.wrap_i64, Fact.wrap_u8, Fact.wrap_u32, Fact.wrap_u64]
      refine hK.out _ _ ?_; clear hK K
      refine Fact.p rfl fun K hK => ?_
      go_simp
      refine hK.out _ _ ?_; clear hK K
      refine Fact.nil ?_
      refine Fact.reQ (n := 114) (by simp only [Fact.G, hf.size]) hf.defers (fun fr1 hf1 hT => ?_)
      have hKp : _ ∧ _ ∧ _ ∧ _ ∧ _ ∧ _ ∧ _ ∧ _ ∧ _ ∧ _ ∧ _ ∧ _ ∧ _ ∧ _ ∧ _ ∧ _ ∧ _ ∧ _ ∧ _ ∧ _ ∧ _ ∧ _ ∧ _ ∧ _ ∧ _ ∧ _ ∧ _ ∧ _ ∧ _ ∧ _ ∧ _ ∧ _ ∧ _ ∧ _ ∧ _ ∧ _ ∧ _ ∧ _ ∧ _ ∧ _ := ⟨hT 5, hT 6, hT 7, hT 9, hT 10, hT 14, hT 79, hT 80, hT 81, hT 82, hT 83, hT 84, hT 85, hT 86, hT 87, hT 88, hT 89, hT 90, hT 91, hT 92, hT 93, hT 94, hT 95, hT 96, hT 97, hT 98, hT 99, hT 100, hT 101, hT 102, hT 103, hT 104, hT 105, hT 106, hT 107, hT 108, hT 109, hT 110, hT 111, hT 112⟩
      simp only [Fact.G, Nat.reduceEqDiff, Nat.reduceLT, reduceIte, hf.size, s5, s6, s7, s9, s10, s79, s80, s81, s82, s85, s86, s87, s88, s89, s90, s91, s92, s93, s94, s95, s96, s97, s98, s99, s100, s101, s102, s103, s104, s105, s106, s107, s108, s109, s110, s111, s112] at hKp
      clear hT hf s5 s6 s7 s9 s10 s14 s79 s80 s81 s82 s85 s86 s87 s88 s89 s90 s91 s92 s93 s94 s95 s96 s97 s98 s99 s100 s101 s102 s103 s104 s105 s106 s107 s108 s109 s110 s111 s112 b83 b84
      obtain ⟨s5, s6, s7, s9, s10, s14, s79, s80, s81, s82, s83, s84, s85, s86, s87, s88, s89, s90, s91, s92, s93, s94, s95, s96, s97, s98, s99, s100, s101, s102, s103, s104, s105, s106, s107, s108, s109, s110, s111, s112⟩ := hKp
      have hf := hf1; clear hf1
      refine Fact.then_normal ?_
      exact ⟨_, by have := HK2.out; omega, _, rfl, hlt, hf, s5, s6, by rw [HGA.out]; exact s7, s9, s10, by rw [s14]; rfl, hb2.trans (hx.mono hb2.size)⟩
    ·
     refine wp_exit ?_
     refine Fact.then_exit ?_
     refine Fact.then_exit ?_
     refine Fact.block_exit ?_
     refine Fact.then_normal ?_
     refine hK33 _ _ ?_
     refine wp_seq_k (fun K41 hK41 => ?_)
     refine Fact.region ?_
     have b113 := hf.l 113 rfl
     refine Fact.p rfl fun K hK => ?_
     go_simp
     refine hK.out _ _ ?_; clear hK K
     refine Fact.p rfl fun K hK => ?_
     go_simp
     refine hK.out _ _ ?_; clear hK K
     refine Fact.nil ?_
     refine Fact.reQ (n := 114) (by simp only [Fact.G, hf.size]) hf.defers (fun fr1 hf1 hT => ?_)
     have hKp := hT 2
     simp only [Fact.G, Nat.reduceEqDiff, Nat.reduceLT, reduceIte, hf.size] at hKp
     clear hT hf s5 s6 s7 s9 s10 s14 s79 s80 s81 s82 b113
     have s2 := hKp; clear hKp
     have hf := hf1; clear hf1
     refine Fact.then_normal ?_
     refine hK41 _ _ ?_
     refine wp_ret ?_
     exact Fact.ret1 rfl hf s2 ⟨rfl, hb7.trans ((hbr.trans (hb2.mono hbr.size)).mono hb7.size)⟩
end Lv
end Go.Proofs.Ytfgfichkcckhiaa
