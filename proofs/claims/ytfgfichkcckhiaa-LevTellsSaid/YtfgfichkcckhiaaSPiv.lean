/- slices.choosePivotOrdered at bytes: some place of the stretch. -/
import Derived.Test.YtfgfichkcckhiaaSMed
namespace Go.Proofs.Ytfgfichkcckhiaa
open Go.RowKit
set_option linter.unusedSimpArgs false
set_option linter.unusedVariables false
set_option linter.unnecessarySimpa false
namespace Sb
set_option maxHeartbeats 4000000 in
set_option maxRecDepth 100000 in
theorem piv_any (zs : List Int) (g n c a b : Nat) (w : World) (hn : zs.length = n) (hnl : n ≤ 400000000) (hab : a + 12 ≤ b) (hb : b ≤ n) (h : Arr w g zs) : Calls Try.prog 82 #[.slice (some ⟨g, 0, none⟩) n c, .int .i64 a, .int .i64 b] w fun e w1 => ∃ (p : Nat) (hint : Int), e = .returned (.tuple #[.int .i64 p, .int .i64 hint]) ∧ a ≤ p ∧ p < b ∧ Below w.heap.size w w1 := by
 refine calls_of_wp Try.func82 rfl ?_
 refine Fact.enter (n := 57) (by kernel_rfl) (fun fr hf hT => ?_)
 have s0 := hT 0 _ rfl
 have s1 := hT 1 _ rfl
 have s2 := hT 2 _ rfl
 clear hT
 obtain ⟨l, hl⟩ : ∃ m : Nat, m = b - a := ⟨_, rfl⟩
 obtain ⟨q, hq⟩ : ∃ m : Nat, m = l / 4 := ⟨_, rfl⟩
 have e1 : IntKind.i64.wrap ((b : Int) - (a : Int)) = (l : Int) := by rw [Fact.wrap_i64 (by omega) (by omega)]; omega
 have e2 : (l : Int).tdiv 4 = (q : Int) := by rw [Int.tdiv_eq_ediv_of_nonneg (by omega)]; omega
 have e3 : IntKind.i64.wrap (q : Int) = (q : Int) := Fact.wrap_i64 (by omega) (by omega)
 obtain ⟨i1, hi1⟩ : ∃ m : Nat, m = a + q * 1 := ⟨_, rfl⟩
 have g1 : IntKind.i64.wrap ((a : Int) + (q : Int)) = (i1 : Int) := by rw [Fact.wrap_i64 (by omega) (by omega)]; omega
 obtain ⟨i2, hi2⟩ : ∃ m : Nat, m = a + q * 2 := ⟨_, rfl⟩
 have f2 : IntKind.i64.wrap ((q : Int) * 2) = (q : Int) * 2 := Fact.wrap_i64 (by omega) (by omega)
 have g2 : IntKind.i64.wrap ((a : Int) + (q : Int) * 2) = (i2 : Int) := by rw [Fact.wrap_i64 (by omega) (by omega)]; omega
 obtain ⟨i3, hi3⟩ : ∃ m : Nat, m = a + q * 3 := ⟨_, rfl⟩
 have f3 : IntKind.i64.wrap ((q : Int) * 3) = (q : Int) * 3 := Fact.wrap_i64 (by omega) (by omega)
 have g3 : IntKind.i64.wrap ((a : Int) + (q : Int) * 3) = (i3 : Int) := by rw [Fact.wrap_i64 (by omega) (by omega)]; omega
 have hl8 : (8 : Int) ≤ (l : Int) := by omega
 have HL := Lib.hid hl; have HQ := Lib.hid hq; have HI1 := Lib.hid hi1; have HI2 := Lib.hid hi2; have HI3 := Lib.hid hi3; clear hl hq hi1 hi2 hi3
 refine wp_seq_k (fun K1 hK1 => ?_)
 refine Fact.region ?_
 refine Fact.p rfl fun K hK => ?_
 go_simp
 refine hK.out _ _ ?_; clear hK K
 refine Fact.p rfl fun K hK => ?_
 go_simp
 refine hK.out _ _ ?_; clear hK K
 refine Fact.nil ?_
 refine Fact.q hf (by simp only [Fact.G]) rfl fun fr1 hf1 hT => ?_
 have hKp : _ ∧ _ ∧ _ ∧ _ ∧ _ := ⟨hT 0, hT 1, hT 2, hT 6, hT 7⟩
 simp only [Fact.G, Nat.reduceEqDiff, Nat.reduceLT, hf.size, reduceIte, s0, s1, s2] at hKp
 clear hT hf s0 s1 s2
 obtain ⟨s0, s1, s2, s6, s7⟩ := hKp
 have hf := hf1; clear hf1
 refine Fact.nx (hK1 _ _ ?_)
 refine wp_seq_k (fun K2 hK2 => ?_)
 refine Fact.region ?_
 have b13 := hf.l 13 rfl
 have b14 := hf.l 14 rfl
 have b15 := hf.l 15 rfl
 refine Fact.p rfl fun K hK => ?_
 go_simp
 refine hK.out _ _ ?_; clear hK K
 refine Fact.p rfl fun K hK => ?_
 go_simp
 refine hK.out _ _ ?_; clear hK K
 refine Fact.p rfl fun K hK => ?_
 go_simp
 try simp (disch := omega) only [Fact.wrap_i64, Fact.wrap_u8, Fact.wrap_u32, Fact.wrap_u64]
 refine hK.out _ _ ?_; clear hK K
 refine Fact.p rfl fun K hK => ?_
 go_simp
 refine hK.out _ _ ?_; clear hK K
 refine Fact.nil ?_
 refine Fact.q hf (by simp only [Fact.G]) rfl fun fr1 hf1 hT => ?_
 have hKp : _ ∧ _ ∧ _ ∧ _ ∧ _ := ⟨hT 0, hT 1, hT 6, hT 7, hT 8⟩
 simp only [Fact.G, Nat.reduceEqDiff, Nat.reduceLT, hf.size, reduceIte, s0, s1, s6, s7] at hKp
 clear hT hf s0 s1 s2 s6 s7 b13 b14 b15
 obtain ⟨s0, s1, s6, s7, s8⟩ := hKp
 have hf := hf1; clear hf1
 refine Fact.nx (hK2 _ _ ?_)
 refine wp_seq_k (fun K3 hK3 => ?_)
 refine Fact.region ?_
 refine Fact.p rfl fun K hK => ?_
 go_simp
 refine hK.out _ _ ?_; clear hK K
 refine Fact.nil ?_
 refine Fact.q hf (by simp only [Fact.G]) rfl fun fr1 hf1 hT => ?_
 have hKp : _ ∧ _ ∧ _ ∧ _ ∧ _ ∧ _ := ⟨hT 0, hT 1, hT 6, hT 7, hT 8, hT 9⟩
 simp only [Fact.G, Nat.reduceEqDiff, Nat.reduceLT, hf.size, reduceIte, s0, s1, s6, s7, s8] at hKp
 clear hT hf s0 s1 s6 s7 s8
 obtain ⟨s0, s1, s6, s7, s8, s9⟩ := hKp
 have hf := hf1; clear hf1
 have hc : Cnt (w.alloc (.cells #[.int .i64 0] 3)) w.heap.size := ⟨0, heap_alloc_new _ _⟩
 have ha1 : Arr (w.alloc (.cells #[.int .i64 0] 3)) g zs := h.below ((Below.refl _ _).alloc (Nat.le_refl _) _)
 have hb1 : Below w.heap.size w (w.alloc (.cells #[.int .i64 0] 3)) := (Below.refl _ _).alloc (Nat.le_refl _) _
 have hgs : g ≠ w.heap.size := Nat.ne_of_lt h.lt
 clear h
 generalize w.alloc (.cells #[.int .i64 0] 3) = w1 at *
 obtain ⟨s, hs⟩ : ∃ s, s = w.heap.size := ⟨_, rfl⟩
 rw [← hs] at hc hgs s9
 have HS := Lib.hid hs; clear hs
 refine Fact.nx (hK3 _ _ ?_)
 refine wp_seq_k (fun K4 hK4 => ?_)
 refine Fact.region ?_
 have b16 := hf.l 16 rfl
 have b17 := hf.l 17 rfl
 have b18 := hf.l 18 rfl
 have b19 := hf.l 19 rfl
 have b20 := hf.l 20 rfl
 refine Fact.p rfl fun K hK => ?_
 go_simp
 refine hK.out _ _ ?_; clear hK K
 refine Fact.p rfl fun K hK => ?_
 go_simp
 refine hK.out _ _ ?_; clear hK K
 refine Fact.p rfl fun K hK => ?_
 go_simp
 refine hK.out _ _ ?_; clear hK K
 refine Fact.p rfl fun K hK => ?_
 go_simp
 try simp (disch := omega) only [Fact.wrap_i64, Fact.wrap_u8, Fact.wrap_u32, Fact.wrap_u64]
 refine hK.out _ _ ?_; clear hK K
 refine Fact.p rfl fun K hK => ?_
 go_simp
 try simp (disch := omega) only [Fact.wrap_i64, Fact.wrap_u8, Fact.wrap_u32, Fact.wrap_u64]
 refine hK.out _ _ ?_; clear hK K
 refine Fact.p rfl fun K hK => ?_
 go_simp
 refine hK.out _ _ ?_; clear hK K
 refine Fact.nil ?_
 refine Fact.q hf (by simp only [Fact.G]) rfl fun fr1 hf1 hT => ?_
 have hKp : _ ∧ _ ∧ _ ∧ _ ∧ _ ∧ _ ∧ _ := ⟨hT 0, hT 1, hT 6, hT 7, hT 8, hT 9, hT 10⟩
 simp only [Fact.G, Nat.reduceEqDiff, Nat.reduceLT, hf.size, reduceIte, s0, s1, s6, s7, s8, s9] at hKp
 clear hT hf s0 s1 s6 s7 s8 s9 b16 b17 b18 b19 b20
 obtain ⟨s0, s1, s6, s7, s8, s9, s10⟩ := hKp
 have hf := hf1; clear hf1
 refine Fact.nx (hK4 _ _ ?_)
 refine wp_seq_k (fun K5 hK5 => ?_)
 refine Fact.region ?_
 have b21 := hf.l 21 rfl
 have b22 := hf.l 22 rfl
 have b23 := hf.l 23 rfl
 have b24 := hf.l 24 rfl
 have b25 := hf.l 25 rfl
 refine Fact.p rfl fun K hK => ?_
 go_simp
 refine hK.out _ _ ?_; clear hK K
 refine Fact.p rfl fun K hK => ?_
 go_simp
 refine hK.out _ _ ?_; clear hK K
 refine Fact.p rfl fun K hK => ?_
 go_simp
 refine hK.out _ _ ?_; clear hK K
 refine Fact.p rfl fun K hK => ?_
 go_simp
 try simp (disch := omega) only [Fact.wrap_i64, Fact.wrap_u8, Fact.wrap_u32, Fact.wrap_u64]
 refine hK.out _ _ ?_; clear hK K
 refine Fact.p rfl fun K hK => ?_
 go_simp
 try simp (disch := omega) only [Fact.wrap_i64, Fact.wrap_u8, Fact.wrap_u32, Fact.wrap_u64]
 refine hK.out _ _ ?_; clear hK K
 refine Fact.p rfl fun K hK => ?_
 go_simp
 refine hK.out _ _ ?_; clear hK K
 refine Fact.nil ?_
 refine Fact.q hf (by simp only [Fact.G]) rfl fun fr1 hf1 hT => ?_
 have hKp : _ ∧ _ ∧ _ ∧ _ ∧ _ ∧ _ ∧ _ ∧ _ := ⟨hT 0, hT 1, hT 6, hT 7, hT 8, hT 9, hT 10, hT 11⟩
 simp only [Fact.G, Nat.reduceEqDiff, Nat.reduceLT, hf.size, reduceIte, s0, s1, s6, s7, s8, s9, s10] at hKp
 clear hT hf s0 s1 s6 s7 s8 s9 s10 b21 b22 b23 b24 b25
 obtain ⟨s0, s1, s6, s7, s8, s9, s10, s11⟩ := hKp
 have hf := hf1; clear hf1
 refine Fact.nx (hK5 _ _ ?_)
 refine wp_seq_k (fun K6 hK6 => ?_)
 refine Fact.region ?_
 have b26 := hf.l 26 rfl
 have b27 := hf.l 27 rfl
 have b28 := hf.l 28 rfl
 have b29 := hf.l 29 rfl
 have b30 := hf.l 30 rfl
 refine Fact.p rfl fun K hK => ?_
 go_simp
 refine hK.out _ _ ?_; clear hK K
 refine Fact.p rfl fun K hK => ?_
 go_simp
 refine hK.out _ _ ?_; clear hK K
 refine Fact.p rfl fun K hK => ?_
 go_simp
 refine hK.out _ _ ?_; clear hK K
 refine Fact.p rfl fun K hK => ?_
 go_simp
 try simp (disch := omega) only [Fact.wrap_i64, Fact.wrap_u8, Fact.wrap_u32, Fact.wrap_u64]
 refine hK.out _ _ ?_; clear hK K
 refine Fact.p rfl fun K hK => ?_
 go_simp
 try simp (disch := omega) only [Fact.wrap_i64, Fact.wrap_u8, Fact.wrap_u32, Fact.wrap_u64]
 refine hK.out _ _ ?_; clear hK K
 refine Fact.p rfl fun K hK => ?_
 go_simp
 refine hK.out _ _ ?_; clear hK K
 refine Fact.nil ?_
 refine Fact.q hf (by simp only [Fact.G]) rfl fun fr1 hf1 hT => ?_
 have hKp : _ ∧ _ ∧ _ ∧ _ ∧ _ ∧ _ ∧ _ ∧ _ := ⟨hT 0, hT 6, hT 7, hT 8, hT 9, hT 10, hT 11, hT 12⟩
 simp only [Fact.G, Nat.reduceEqDiff, Nat.reduceLT, hf.size, reduceIte, s0, s6, s7, s8, s9, s10, s11] at hKp
 clear hT hf s0 s1 s6 s7 s8 s9 s10 s11 b26 b27 b28 b29 b30
 obtain ⟨s0, s6, s7, s8, s9, s10, s11, s12⟩ := hKp
 have hf := hf1; clear hf1
 refine Fact.nx (hK6 _ _ ?_)
 refine wp_seq_k (fun K7 hK7 => ?_)
 refine wp_seq_k (fun K8 hK8 => ?_)
 refine Fact.region ?_
 have b31 := hf.l 31 rfl
 refine Fact.p rfl fun K hK => ?_
 go_simp
 refine hK.out _ _ ?_; clear hK K
 refine Fact.p rfl fun K hK => ?_
 go_simp
 refine hK.out _ _ ?_; clear hK K
 refine Fact.nil ?_
 refine Fact.q hf (by simp only [Fact.G]) rfl fun fr1 hf1 hT => ?_
 have hKp : _ ∧ _ ∧ _ ∧ _ ∧ _ ∧ _ ∧ _ ∧ _ ∧ _ := ⟨hT 0, hT 6, hT 7, hT 8, hT 9, hT 10, hT 11, hT 12, hT 32⟩
 simp only [Fact.G, Nat.reduceEqDiff, Nat.reduceLT, hf.size, reduceIte, s0, s6, s7, s8, s9, s10, s11, s12] at hKp
 clear hT hf s0 s6 s7 s8 s9 s10 s11 s12 b31
 obtain ⟨s0, s6, s7, s8, s9, s10, s11, s12, s32⟩ := hKp
 have hf := hf1; clear hf1
 refine Fact.nx (hK8 _ _ ?_)
 refine Fact.cond_t s32 ?_
 refine Fact.seq_meet (fun fr w2 => ∃ i j k : Nat, i < b ∧ j < b ∧ k < b ∧ a ≤ i ∧ a ≤ j ∧ a ≤ k ∧ Fact.Fr 57 fr ∧ fr.tmps[0]? = some (.slice (some ⟨g, 0, none⟩) n c) ∧ fr.tmps[9]? = some (.pointer (some ⟨s, 0, none⟩)) ∧ fr.tmps[10]? = some (.int .i64 i) ∧ fr.tmps[11]? = some (.int .i64 j) ∧ fr.tmps[12]? = some (.int .i64 k) ∧ Cnt w2 s ∧ Only w1 w2 s) ?_ ?_
 · (
 by_cases h50 : 50 ≤ l
 · (
 have h50i : (50 : Int) ≤ (l : Int) := by omega
 refine wp_seq_k (fun K9 hK9 => ?_)
 refine Fact.region ?_
 have b33 := hf.l 33 rfl
 refine Fact.p rfl fun K hK => ?_
 go_simp
 refine hK.out _ _ ?_; clear hK K
 refine Fact.p rfl fun K hK => ?_
 go_simp
 refine hK.out _ _ ?_; clear hK K
 refine Fact.nil ?_
 refine Fact.q hf (by simp only [Fact.G]) rfl fun fr1 hf1 hT => ?_
 have hKp : _ ∧ _ ∧ _ ∧ _ ∧ _ ∧ _ ∧ _ ∧ _ := ⟨hT 0, hT 6, hT 7, hT 9, hT 10, hT 11, hT 12, hT 34⟩
 simp only [Fact.G, Nat.reduceEqDiff, Nat.reduceLT, hf.size, reduceIte, s0, s6, s7, s9, s10, s11, s12] at hKp
 clear hT hf s0 s6 s7 s8 s9 s10 s11 s12 s32 b33
 obtain ⟨s0, s6, s7, s9, s10, s11, s12, s34⟩ := hKp
 have hf := hf1; clear hf1
 refine Fact.nx (hK9 _ _ ?_)
 refine Fact.cond_t s34 ?_
 refine wp_seq_k (fun K10 hK10 => ?_)
 refine Fact.region ?_
 have b35 := hf.l 35 rfl
 have b36 := hf.l 36 rfl
 have b37 := hf.l 37 rfl
 refine Fact.p rfl fun K hK => ?_
 go_simp
 refine hK.out _ _ ?_; clear hK K
 refine Fact.p rfl fun K hK => ?_
 go_simp
 refine hK.out _ _ ?_; clear hK K
 refine Fact.p rfl fun K hK => ?_
 go_simp
 go_at_call 95; refine (madj_any zs g n c i1 s w1 hn hnl (by have := HI1.out; have := HQ.out; omega) (by have := HI1.out; have := HQ.out; have := HL.out; omega) hgs ha1 hc).mono ?_; rintro e w2 ⟨x1, rfl, hx1, hx1', hc2, ho2⟩
 have ha2 := ha1.only ho2 hgs
 dsimp only
 refine hK.out _ _ ?_; clear hK K
 refine Fact.p rfl fun K hK => ?_
 go_simp
 refine hK.out _ _ ?_; clear hK K
 refine Fact.nil ?_
 refine Fact.q hf (by simp only [Fact.G]) rfl fun fr1 hf1 hT => ?_
 have hKp : _ ∧ _ ∧ _ ∧ _ ∧ _ ∧ _ ∧ _ := ⟨hT 0, hT 6, hT 7, hT 9, hT 10, hT 11, hT 12⟩
 simp only [Fact.G, Nat.reduceEqDiff, Nat.reduceLT, hf.size, reduceIte, s0, s6, s7, s9, s11, s12] at hKp
 clear hT hf s0 s6 s7 s9 s10 s11 s12 s34 b35 b36 b37
 obtain ⟨s0, s6, s7, s9, s10, s11, s12⟩ := hKp
 have hf := hf1; clear hf1
 refine Fact.nx (hK10 _ _ ?_)
 refine wp_seq_k (fun K11 hK11 => ?_)
 refine Fact.region ?_
 have b38 := hf.l 38 rfl
 have b39 := hf.l 39 rfl
 have b40 := hf.l 40 rfl
 refine Fact.p rfl fun K hK => ?_
 go_simp
 refine hK.out _ _ ?_; clear hK K
 refine Fact.p rfl fun K hK => ?_
 go_simp
 refine hK.out _ _ ?_; clear hK K
 refine Fact.p rfl fun K hK => ?_
 go_simp
 go_at_call 95; refine (madj_any zs g n c i2 s w2 hn hnl (by have := HI2.out; have := HQ.out; omega) (by have := HI2.out; have := HQ.out; have := HL.out; omega) hgs ha2 hc2).mono ?_; rintro e w3 ⟨x2, rfl, hx2, hx2', hc3, ho3⟩
 have ha3 := ha2.only ho3 hgs
 dsimp only
 refine hK.out _ _ ?_; clear hK K
 refine Fact.p rfl fun K hK => ?_
 go_simp
 refine hK.out _ _ ?_; clear hK K
 refine Fact.nil ?_
 refine Fact.q hf (by simp only [Fact.G]) rfl fun fr1 hf1 hT => ?_
 have hKp : _ ∧ _ ∧ _ ∧ _ ∧ _ ∧ _ ∧ _ := ⟨hT 0, hT 6, hT 7, hT 9, hT 10, hT 11, hT 12⟩
 simp only [Fact.G, Nat.reduceEqDiff, Nat.reduceLT, hf.size, reduceIte, s0, s6, s7, s9, s10, s12] at hKp
 clear hT hf s0 s6 s7 s9 s10 s11 s12 b38 b39 b40
 obtain ⟨s0, s6, s7, s9, s10, s11, s12⟩ := hKp
 have hf := hf1; clear hf1
 refine Fact.nx (hK11 _ _ ?_)
 refine Fact.region ?_
 have b41 := hf.l 41 rfl
 have b42 := hf.l 42 rfl
 have b43 := hf.l 43 rfl
 refine Fact.p rfl fun K hK => ?_
 go_simp
 refine hK.out _ _ ?_; clear hK K
 refine Fact.p rfl fun K hK => ?_
 go_simp
 refine hK.out _ _ ?_; clear hK K
 refine Fact.p rfl fun K hK => ?_
 go_simp
 go_at_call 95; refine (madj_any zs g n c i3 s w3 hn hnl (by have := HI3.out; have := HQ.out; omega) (by have := HI3.out; have := HQ.out; have := HL.out; omega) hgs ha3 hc3).mono ?_; rintro e w4 ⟨x3, rfl, hx3, hx3', hc4, ho4⟩
 dsimp only
 refine hK.out _ _ ?_; clear hK K
 refine Fact.p rfl fun K hK => ?_
 go_simp
 refine hK.out _ _ ?_; clear hK K
 refine Fact.nil ?_
 refine Fact.q hf (by simp only [Fact.G]) rfl fun fr1 hf1 hT => ?_
 have hKp : _ ∧ _ ∧ _ ∧ _ ∧ _ ∧ _ ∧ _ := ⟨hT 0, hT 6, hT 7, hT 9, hT 10, hT 11, hT 12⟩
 simp only [Fact.G, Nat.reduceEqDiff, Nat.reduceLT, hf.size, reduceIte, s0, s6, s7, s9, s10, s11] at hKp
 clear hT hf s0 s6 s7 s9 s10 s11 s12 b41 b42 b43
 obtain ⟨s0, s6, s7, s9, s10, s11, s12⟩ := hKp
 have hf := hf1; clear hf1
 refine Fact.then_normal ?_
 exact ⟨x1, x2, x3, by have := HI1.out; have := HI2.out; have := HI3.out; have := HQ.out; have := HL.out; omega, by have := HI1.out; have := HI2.out; have := HI3.out; have := HQ.out; have := HL.out; omega, by have := HI1.out; have := HI2.out; have := HI3.out; have := HQ.out; have := HL.out; omega, by have := HI1.out; have := HI2.out; have := HI3.out; have := HQ.out; have := HL.out; omega, by have := HI1.out; have := HI2.out; have := HI3.out; have := HQ.out; have := HL.out; omega, by have := HI1.out; have := HI2.out; have := HI3.out; have := HQ.out; have := HL.out; omega, hf, s0, s9, s10, s11, s12, hc4, (ho2.trans ho3).trans ho4⟩)
 · (
 have h50i : ¬ (50 : Int) ≤ (l : Int) := by omega
 refine wp_seq_k (fun K12 hK12 => ?_)
 refine Fact.region ?_
 have b33 := hf.l 33 rfl
 refine Fact.p rfl fun K hK => ?_
 go_simp
 refine hK.out _ _ ?_; clear hK K
 refine Fact.p rfl fun K hK => ?_
 go_simp
 refine hK.out _ _ ?_; clear hK K
 refine Fact.nil ?_
 refine Fact.q hf (by simp only [Fact.G]) rfl fun fr1 hf1 hT => ?_
 have hKp : _ ∧ _ ∧ _ ∧ _ ∧ _ ∧ _ ∧ _ ∧ _ := ⟨hT 0, hT 6, hT 7, hT 9, hT 10, hT 11, hT 12, hT 34⟩
 simp only [Fact.G, Nat.reduceEqDiff, Nat.reduceLT, hf.size, reduceIte, s0, s6, s7, s9, s10, s11, s12] at hKp
 clear hT hf s0 s6 s7 s8 s9 s10 s11 s12 s32 b33
 obtain ⟨s0, s6, s7, s9, s10, s11, s12, s34⟩ := hKp
 have hf := hf1; clear hf1
 refine Fact.nx (hK12 _ _ ?_)
 refine Fact.cond_f s34 ?_
 refine wp_skip ?_
 refine Fact.then_normal ?_
 exact ⟨i1, i2, i3, by have := HI1.out; have := HI2.out; have := HI3.out; have := HQ.out; have := HL.out; omega, by have := HI1.out; have := HI2.out; have := HI3.out; have := HQ.out; have := HL.out; omega, by have := HI1.out; have := HI2.out; have := HI3.out; have := HQ.out; have := HL.out; omega, by have := HI1.out; have := HI2.out; have := HI3.out; have := HQ.out; have := HL.out; omega, by have := HI1.out; have := HI2.out; have := HI3.out; have := HQ.out; have := HL.out; omega, by have := HI1.out; have := HI2.out; have := HI3.out; have := HQ.out; have := HL.out; omega, hf, s0, s9, s10, s11, s12, hc, Only.refl _ _⟩))
 · (
 clear hf s0 s6 s7 s8 s9 s10 s11 s12 s32
 clear e1 e2 e3 f2 f3 g1 g2 g3 hc
 rintro fr w2 ⟨i, j, k, hib, hjb, hkb, hai, haj, hak, hf, s0, s9, s10, s11, s12, hc, ho⟩
 have ha2 := ha1.only ho hgs
 have hOB : ∀ W : World, Only w1 W s → Below w.heap.size w W := fun W hW => hb1.grown hW hb1.size (fun k hk => by injection hk with hk; have := HS.out; omega)
 have HOB := Lib.hid hOB; clear hOB
 refine Fact.region ?_
 have b44 := hf.l 44 rfl
 have b45 := hf.l 45 rfl
 have b46 := hf.l 46 rfl
 have b47 := hf.l 47 rfl
 have b48 := hf.l 48 rfl
 refine Fact.p rfl fun K hK => ?_
 go_simp
 refine hK.out _ _ ?_; clear hK K
 refine Fact.p rfl fun K hK => ?_
 go_simp
 refine hK.out _ _ ?_; clear hK K
 refine Fact.p rfl fun K hK => ?_
 go_simp
 refine hK.out _ _ ?_; clear hK K
 refine Fact.p rfl fun K hK => ?_
 go_simp
 refine hK.out _ _ ?_; clear hK K
 refine Fact.p rfl fun K hK => ?_
 go_simp
 go_at_call 96; refine (med_any zs g n c i j k s w2 hn (by omega) (by omega) (by omega) hgs ha2 hc).mono ?_; rintro e w3 ⟨x, rfl, hx, hc3, ho3⟩
 dsimp only
 refine hK.out _ _ ?_; clear hK K
 refine Fact.p rfl fun K hK => ?_
 go_simp
 refine hK.out _ _ ?_; clear hK K
 refine Fact.nil ?_
 refine Fact.q hf (by simp only [Fact.G]) rfl fun fr1 hf1 hT => ?_
 have hKp : _ ∧ _ := ⟨hT 9, hT 11⟩
 simp only [Fact.G, Nat.reduceEqDiff, Nat.reduceLT, hf.size, reduceIte, s9] at hKp
 clear hT hf s0 s9 s10 s11 s12 b44 b45 b46 b47 b48
 obtain ⟨s9, s11⟩ := hKp
 have hf := hf1; clear hf1
 refine Fact.nx (hK7 _ _ ?_)
 refine wp_seq_k (fun K13 hK13 => ?_)
 obtain ⟨v, hv⟩ := hc3
 have cs := cell_of_row w3 s 0 _ _ _ hv; simp only [List.getElem?_toArray, List.getElem?_cons_zero] at cs
 refine Fact.region ?_
 refine Fact.p rfl fun K hK => ?_
 go_simp
 refine hK.out _ _ ?_; clear hK K
 refine Fact.nil ?_
 refine Fact.q hf (by simp only [Fact.G]) rfl fun fr1 hf1 hT => ?_
 have hKp : _ ∧ _ := ⟨hT 11, hT 49⟩
 simp only [Fact.G, Nat.reduceEqDiff, Nat.reduceLT, hf.size, reduceIte, s11] at hKp
 clear hT hf s9 s11
 obtain ⟨s11, s49⟩ := hKp
 have hf := hf1; clear hf1
 refine Fact.nx (hK13 _ _ ?_)
 refine wp_block ?_
 refine wp_seq_k (fun K14 hK14 => ?_)
 refine Fact.region ?_
 have b52 := hf.l 52 rfl
 refine Fact.p rfl fun K hK => ?_
 go_simp
 refine hK.out _ _ ?_; clear hK K
 refine Fact.p rfl fun K hK => ?_
 go_simp
 refine hK.out _ _ ?_; clear hK K
 refine Fact.nil ?_
 refine Fact.q hf (by simp only [Fact.G]) rfl fun fr1 hf1 hT => ?_
 have hKp : _ ∧ _ ∧ _ := ⟨hT 11, hT 49, hT 51⟩
 simp only [Fact.G, Nat.reduceEqDiff, Nat.reduceLT, hf.size, reduceIte, s11, s49] at hKp
 clear hT hf s11 s49 b52
 obtain ⟨s11, s49, s51⟩ := hKp
 have hf := hf1; clear hf1
 refine Fact.nx (hK14 _ _ ?_)
 refine Fact.cond_s s51 (fun hq1 => ?_) (fun hq1 => ?_)
 · (
 refine wp_seq_k (fun K15 hK15 => ?_)
 refine Fact.region ?_
 have b53 := hf.l 53 rfl
 refine Fact.p rfl fun K hK => ?_
 go_simp
 refine hK.out _ _ ?_; clear hK K
 refine Fact.p rfl fun K hK => ?_
 go_simp
 refine hK.out _ _ ?_; clear hK K
 refine Fact.p rfl fun K hK => ?_
 go_simp
 refine hK.out _ _ ?_; clear hK K
 refine Fact.nil ?_
 refine Fact.q hf (by simp only [Fact.G]) rfl fun fr1 hf1 hT => ?_
 have hKp : _ ∧ _ := ⟨hT 6, hT 7⟩
 simp only [Fact.G, Nat.reduceEqDiff, Nat.reduceLT, hf.size, reduceIte] at hKp
 clear hT hf s11 s49 s51 b53
 obtain ⟨s6, s7⟩ := hKp
 have hf := hf1; clear hf1
 refine Fact.nx (hK15 _ _ ?_)
 refine wp_ret ?_
 refine Fact.block_ret ?_
 exact Fact.ret2 rfl hf s6 s7 ⟨x, _, rfl, by omega, by omega, HOB.out _ (ho.trans ho3)⟩)
 · (
 refine wp_seq_k (fun K16 hK16 => ?_)
 refine Fact.region ?_
 have b55 := hf.l 55 rfl
 refine Fact.p rfl fun K hK => ?_
 go_simp
 refine hK.out _ _ ?_; clear hK K
 refine Fact.p rfl fun K hK => ?_
 go_simp
 refine hK.out _ _ ?_; clear hK K
 refine Fact.nil ?_
 refine Fact.q hf (by simp only [Fact.G]) rfl fun fr1 hf1 hT => ?_
 have hKp : _ ∧ _ := ⟨hT 11, hT 54⟩
 simp only [Fact.G, Nat.reduceEqDiff, Nat.reduceLT, hf.size, reduceIte, s11] at hKp
 clear hT hf s11 s49 s51 b55
 obtain ⟨s11, s54⟩ := hKp
 have hf := hf1; clear hf1
 refine Fact.nx (hK16 _ _ ?_)
 refine Fact.cond_s s54 (fun hq2 => ?_) (fun hq2 => ?_)
 · (
 refine wp_seq_k (fun K17 hK17 => ?_)
 refine Fact.region ?_
 have b56 := hf.l 56 rfl
 refine Fact.p rfl fun K hK => ?_
 go_simp
 refine hK.out _ _ ?_; clear hK K
 refine Fact.p rfl fun K hK => ?_
 go_simp
 refine hK.out _ _ ?_; clear hK K
 refine Fact.p rfl fun K hK => ?_
 go_simp
 refine hK.out _ _ ?_; clear hK K
 refine Fact.nil ?_
 refine Fact.q hf (by simp only [Fact.G]) rfl fun fr1 hf1 hT => ?_
 have hKp : _ ∧ _ := ⟨hT 6, hT 7⟩
 simp only [Fact.G, Nat.reduceEqDiff, Nat.reduceLT, hf.size, reduceIte] at hKp
 clear hT hf s11 s54 b56
 obtain ⟨s6, s7⟩ := hKp
 have hf := hf1; clear hf1
 refine Fact.nx (hK17 _ _ ?_)
 refine wp_ret ?_
 refine Fact.block_ret ?_
 exact Fact.ret2 rfl hf s6 s7 ⟨x, _, rfl, by omega, by omega, HOB.out _ (ho.trans ho3)⟩)
 · (
 refine wp_seq_k (fun K18 hK18 => ?_)
 refine Fact.region ?_
 have b50 := hf.l 50 rfl
 refine Fact.p rfl fun K hK => ?_
 go_simp
 refine hK.out _ _ ?_; clear hK K
 refine Fact.p rfl fun K hK => ?_
 go_simp
 refine hK.out _ _ ?_; clear hK K
 refine Fact.p rfl fun K hK => ?_
 go_simp
 refine hK.out _ _ ?_; clear hK K
 refine Fact.nil ?_
 refine Fact.q hf (by simp only [Fact.G]) rfl fun fr1 hf1 hT => ?_
 have hKp : _ ∧ _ := ⟨hT 6, hT 7⟩
 simp only [Fact.G, Nat.reduceEqDiff, Nat.reduceLT, hf.size, reduceIte] at hKp
 clear hT hf s11 s54 b50
 obtain ⟨s6, s7⟩ := hKp
 have hf := hf1; clear hf1
 refine Fact.nx (hK18 _ _ ?_)
 refine wp_ret ?_
 refine Fact.block_ret ?_
 exact Fact.ret2 rfl hf s6 s7 ⟨x, _, rfl, by omega, by omega, HOB.out _ (ho.trans ho3)⟩)))
end Sb
end Go.Proofs.Ytfgfichkcckhiaa
