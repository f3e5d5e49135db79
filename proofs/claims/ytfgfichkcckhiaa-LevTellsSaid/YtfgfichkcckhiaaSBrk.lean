/- slices.breakPatternsOrdered at bytes. -/
import Derived.Test.YtfgfichkcckhiaaSLen
namespace Go.Proofs.Ytfgfichkcckhiaa
open Go.RowKit
set_option linter.unusedSimpArgs false
set_option linter.unusedVariables false
set_option linter.unnecessarySimpa false
namespace Sb
set_option maxHeartbeats 4000000 in
set_option maxRecDepth 100000 in
theorem brk_any (zs : List Int) (g n c a b : Nat) (w : World) (hn : zs.length = n) (hnl : n ≤ 400000000) (hab : a + 8 ≤ b) (hb : b ≤ n) (h : Arr w g zs) : Calls Try.prog 81 #[.slice (some ⟨g, 0, none⟩) n c, .int .i64 a, .int .i64 b] w fun e w1 => e = .returned (.tuple #[]) ∧ ∃ ys, Segm a b zs ys ∧ Arr w1 g ys ∧ Only w w1 g := by
 refine calls_of_wp Try.func81 rfl ?_
 refine Fact.enter (n := 65) (by kernel_rfl) (fun fr hf hT => ?_)
 have s0 := hT 0 _ rfl
 have s1 := hT 1 _ rfl
 have s2 := hT 2 _ rfl
 clear hT
 obtain ⟨l, hl⟩ : ∃ m : Nat, m = b - a := ⟨_, rfl⟩
 obtain ⟨q, hq⟩ : ∃ m : Nat, m = l / 4 := ⟨_, rfl⟩
 obtain ⟨p0, hp0⟩ : ∃ m : Nat, m = a + q * 2 - 1 := ⟨_, rfl⟩
 have e1 : IntKind.i64.wrap ((b : Int) - (a : Int)) = (l : Int) := by rw [Fact.wrap_i64 (by omega) (by omega)]; omega
 have h8 : (8 : Int) ≤ (l : Int) := by omega
 have hln : l ≤ 400000000 := by omega
 have eu : IntKind.u64.wrap (l : Int) = (l : Int) := Fact.wrap_u64 (by omega) (by omega)
 have e2 : (l : Int).tdiv 4 = (q : Int) := by rw [Int.tdiv_eq_ediv_of_nonneg (by omega)]; omega
 have e3 : IntKind.i64.wrap (q : Int) = (q : Int) := Fact.wrap_i64 (by omega) (by omega)
 have e4 : IntKind.i64.wrap ((q : Int) * 2) = (q : Int) * 2 := Fact.wrap_i64 (by omega) (by omega)
 have e5 : IntKind.i64.wrap ((a : Int) + (q : Int) * 2) = (a : Int) + (q : Int) * 2 := Fact.wrap_i64 (by omega) (by omega)
 have e6 : IntKind.i64.wrap ((a : Int) + (q : Int) * 2 - 1) = (p0 : Int) := by rw [Fact.wrap_i64 (by omega) (by omega)]; omega
 have e7 : IntKind.i64.wrap ((a : Int) + (q : Int) * 2 + 1) = ((p0 + 2 : Nat) : Int) := by rw [Fact.wrap_i64 (by omega) (by omega)]; omega
 have HN := Lib.hid hn; have HL := Lib.hid hl; have HQ := Lib.hid hq; have HP0 := Lib.hid hp0; clear hn hl hq hp0
 refine wp_seq_k (fun K1 hK1 => ?_)
 refine Fact.region ?_
 have b11 := hf.l 11 rfl
 have b12 := hf.l 12 rfl
 have b13 := hf.l 13 rfl
 refine Fact.p rfl fun K hK => ?_
 go_simp
 refine hK.out _ _ ?_; clear hK K
 refine Fact.p rfl fun K hK => ?_
 go_simp
 refine hK.out _ _ ?_; clear hK K
 refine Fact.p rfl fun K hK => ?_
 go_simp
 try simp (disch := omega) only [Fact.wrap_i64, Fact.wrap_u8, Fact.wrap_u32, Fact.wrap_u64]
 refine hK.out _ _ ?_; clear hK K
 refine Fact.p rfl fun K hK => ?_
 go_simp
 refine hK.out _ _ ?_; clear hK K
 refine Fact.nil ?_
 refine Fact.q hf (by simp only [Fact.G]) rfl fun fr1 hf1 hT => ?_
 have hKp : _ ∧ _ ∧ _ := ⟨hT 0, hT 1, hT 6⟩
 simp only [Fact.G, Nat.reduceEqDiff, Nat.reduceLT, hf.size, reduceIte, s0, s1] at hKp
 clear hT hf s0 s1 s2 b11 b12 b13
 obtain ⟨s0, s1, s6⟩ := hKp
 have hf := hf1; clear hf1
 refine Fact.nx (hK1 _ _ ?_)
 refine wp_seq_k (fun K2 hK2 => ?_)
 refine Fact.region ?_
 have b14 := hf.l 14 rfl
 refine Fact.p rfl fun K hK => ?_
 go_simp
 refine hK.out _ _ ?_; clear hK K
 refine Fact.p rfl fun K hK => ?_
 go_simp
 refine hK.out _ _ ?_; clear hK K
 refine Fact.nil ?_
 refine Fact.q hf (by simp only [Fact.G]) rfl fun fr1 hf1 hT => ?_
 have hKp : _ ∧ _ ∧ _ ∧ _ := ⟨hT 0, hT 1, hT 6, hT 15⟩
 simp only [Fact.G, Nat.reduceEqDiff, Nat.reduceLT, hf.size, reduceIte, s0, s1, s6] at hKp
 clear hT hf s0 s1 s6 b14
 obtain ⟨s0, s1, s6, s15⟩ := hKp
 have hf := hf1; clear hf1
 refine Fact.nx (hK2 _ _ ?_)
 refine Fact.cond_t s15 ?_
 refine wp_seq_k (fun K3 hK3 => ?_)
 refine Fact.region ?_
 have b16 := hf.l 16 rfl
 have b17 := hf.l 17 rfl
 have b7 := hf.l 7 rfl
 refine Fact.p rfl fun K hK => ?_
 go_simp
 refine hK.out _ _ ?_; clear hK K
 refine Fact.p rfl fun K hK => ?_
 go_simp
 refine hK.out _ _ ?_; clear hK K
 refine Fact.p rfl fun K hK => ?_
 go_simp
 refine hK.out _ _ ?_; clear hK K
 refine Fact.p rfl fun K hK => ?_
 go_simp
 refine hK.out _ _ ?_; clear hK K
 refine Fact.nil ?_
 refine Fact.q hf (by simp only [Fact.G]) rfl fun fr1 hf1 hT => ?_
 have hKp : _ ∧ _ ∧ _ ∧ _ := ⟨hT 0, hT 1, hT 6, hT 7⟩
 simp only [Fact.G, Nat.reduceEqDiff, Nat.reduceLT, hf.size, reduceIte, s0, s1, s6] at hKp
 clear hT hf s0 s1 s6 s15 b16 b17 b7
 obtain ⟨s0, s1, s6, s7⟩ := hKp
 have hf := hf1; clear hf1
 have hr : Rnd (w.alloc (.cells #[.int .u64 l] 122)) w.heap.size := ⟨_, l, by omega, heap_alloc_new _ _⟩
 have ha : Arr (w.alloc (.cells #[.int .u64 l] 122)) g zs := h.below ((Below.refl _ _).alloc (Nat.le_refl _) _)
 have hb1 : Below w.heap.size w (w.alloc (.cells #[.int .u64 l] 122)) := (Below.refl _ _).alloc (Nat.le_refl _) _
 have ho := Only.of_below hb1 g
 have hgs : g ≠ w.heap.size := Nat.ne_of_lt h.lt
 have hsl : ∀ W : World, Only (w.alloc (.cells #[.int .u64 l] 122)) W w.heap.size → Only w W g := fun W hW => Only.of_below (hb1.grown hW hb1.size (fun k hk => by injection hk with hk; omega)) g
 clear h
 generalize w.alloc (.cells #[.int .u64 l] 122) = w1 at *
 obtain ⟨s, hs⟩ : ∃ s, s = w.heap.size := ⟨_, rfl⟩
 have hsle : w.heap.size ≤ s := by omega
 rw [← hs] at hr hgs s7 hsl
 clear hs hb1 eu hsl
 refine Fact.nx (hK3 _ _ ?_)
 refine wp_seq_k (fun K4 hK4 => ?_)
 refine Fact.region ?_
 have b18 := hf.l 18 rfl
 have b19 := hf.l 19 rfl
 refine Fact.p rfl fun K hK => ?_
 go_simp
 refine hK.out _ _ ?_; clear hK K
 refine Fact.p rfl fun K hK => ?_
 go_simp
 go_at_call 93; refine (npt_any l (by omega) (by omega) w1).mono ?_; rintro e w2 ⟨M, rfl, hM1, hM2, rfl⟩
 dsimp only
 refine hK.out _ _ ?_; clear hK K
 refine Fact.p rfl fun K hK => ?_
 go_simp
 refine hK.out _ _ ?_; clear hK K
 refine Fact.nil ?_
 refine Fact.q hf (by simp only [Fact.G]) rfl fun fr1 hf1 hT => ?_
 have hKp : _ ∧ _ ∧ _ ∧ _ ∧ _ := ⟨hT 0, hT 1, hT 6, hT 7, hT 8⟩
 simp only [Fact.G, Nat.reduceEqDiff, Nat.reduceLT, hf.size, reduceIte, s0, s1, s6, s7] at hKp
 clear hT hf s0 s1 s6 s7 b18 b19
 obtain ⟨s0, s1, s6, s7, s8⟩ := hKp
 have hf := hf1; clear hf1
 refine Fact.nx (hK4 _ _ ?_)
 refine wp_seq_k (fun K5 hK5 => ?_)
 refine Fact.region ?_
 have b20 := hf.l 20 rfl
 have b21 := hf.l 21 rfl
 have b22 := hf.l 22 rfl
 have b23 := hf.l 23 rfl
 have b24 := hf.l 24 rfl
 have b25 := hf.l 25 rfl
 refine Fact.p rfl fun K hK => ?_
 go_simp
 refine hK.out _ _ ?_; clear hK K
 refine Fact.p rfl fun K hK => ?_
 go_simp
 refine hK.out _ _ ?_; clear hK K
 refine Fact.p rfl fun K hK => ?_
 go_simp
 refine hK.out _ _ ?_; clear hK K
 refine Fact.p rfl fun K hK => ?_
 go_simp
 try simp (disch := omega) only [Fact.wrap_i64, Fact.wrap_u8, Fact.wrap_u32, Fact.wrap_u64]
 refine hK.out _ _ ?_; clear hK K
 refine Fact.p rfl fun K hK => ?_
 go_simp
 try simp (disch := omega) only [Fact.wrap_i64, Fact.wrap_u8, Fact.wrap_u32, Fact.wrap_u64]
 refine hK.out _ _ ?_; clear hK K
 refine Fact.p rfl fun K hK => ?_
 go_simp
 try simp (disch := omega) only [Fact.wrap_i64, Fact.wrap_u8, Fact.wrap_u32, Fact.wrap_u64]
 refine hK.out _ _ ?_; clear hK K
 refine Fact.p rfl fun K hK => ?_
 go_simp
 refine hK.out _ _ ?_; clear hK K
 refine Fact.nil ?_
 refine Fact.q hf (by simp only [Fact.G]) rfl fun fr1 hf1 hT => ?_
 have hKp : _ ∧ _ ∧ _ ∧ _ ∧ _ ∧ _ := ⟨hT 0, hT 1, hT 6, hT 7, hT 8, hT 9⟩
 simp only [Fact.G, Nat.reduceEqDiff, Nat.reduceLT, hf.size, reduceIte, s0, s1, s6, s7, s8] at hKp
 clear hT hf s0 s1 s6 s7 s8 b20 b21 b22 b23 b24 b25
 obtain ⟨s0, s1, s6, s7, s8, s9⟩ := hKp
 have hf := hf1; clear hf1
 clear e1 e2 e4 e5 e6
 have s9 : fr1.tmps[9]? = some (.int .i64 (p0 : Int)) := by first | exact s9 | (rw [s9]; go_num)
 have e8 : (l : Int).tdiv 4 = (q : Int) := by have := HQ.out; rw [Int.tdiv_eq_ediv_of_nonneg (by omega)]; omega
 refine Fact.nx (hK5 _ _ ?_)
 refine wp_block ?_
 refine wp_loop_ghost (fun gk fr wr => ∃ (m : Nat) (ys : List Int), gk = p0 + 3 - m ∧ p0 ≤ m ∧ m ≤ p0 + 3 ∧ Fact.Fr 65 fr ∧ fr.tmps[0]? = some (.slice (some ⟨g, 0, none⟩) n c) ∧ fr.tmps[1]? = some (.int .i64 a) ∧ fr.tmps[6]? = some (.int .i64 l) ∧ fr.tmps[7]? = some (.pointer (some ⟨s, 0, none⟩)) ∧ fr.tmps[8]? = some (.int .u64 M) ∧ fr.tmps[9]? = some (.int .i64 m) ∧ Segm a b zs ys ∧ Rnd wr s ∧ Arr wr g ys ∧ Only w wr g) (p0 + 3 - p0) ?_ ?_
 · (
 exact ⟨p0, zs, rfl, Nat.le_refl _, by omega, hf, s0, s1, s6, s7, s8, s9, Segm.refl _ _ _, hr, ha, ho⟩)
 · (
 clear hf s0 s1 s6 s7 s8 s9
 clear hr ha ho
 rintro gk fr wr ⟨m, ys, hk, hm0, hm3, hf, s0, s1, s6, s7, s8, s9, hsg, hr, ha, ho⟩
 have HK := Lib.hid hk; clear hk
 have HYL := Lib.hid (show ys.length = n by rw [hsg.len]; exact HN.out)
 have e4 : IntKind.i64.wrap ((q : Int) * 2) = (q : Int) * 2 := Fact.wrap_i64 (by omega) (by have := HQ.out; have := HL.out; omega)
 have e5 : IntKind.i64.wrap ((a : Int) + (q : Int) * 2) = (a : Int) + (q : Int) * 2 := Fact.wrap_i64 (by omega) (by have := HQ.out; have := HL.out; omega)
 by_cases hlt : m ≤ p0 + 2
 · (
 have hltI : (m : Int) ≤ (p0 : Int) + 2 := by omega
 refine wp_seq_k (fun K6 hK6 => ?_)
 refine wp_seq_k (fun K7 hK7 => ?_)
 refine Fact.region ?_
 have b26 := hf.l 26 rfl
 have b27 := hf.l 27 rfl
 have b28 := hf.l 28 rfl
 have b29 := hf.l 29 rfl
 have b30 := hf.l 30 rfl
 have b31 := hf.l 31 rfl
 have b32 := hf.l 32 rfl
 refine Fact.p rfl fun K hK => ?_
 go_simp
 refine hK.out _ _ ?_; clear hK K
 refine Fact.p rfl fun K hK => ?_
 go_simp
 refine hK.out _ _ ?_; clear hK K
 refine Fact.p rfl fun K hK => ?_
 go_simp
 refine hK.out _ _ ?_; clear hK K
 refine Fact.p rfl fun K hK => ?_
 go_simp
 refine hK.out _ _ ?_; clear hK K
 refine Fact.p rfl fun K hK => ?_
 go_simp
 try simp (disch := omega) only [Fact.wrap_i64, Fact.wrap_u8, Fact.wrap_u32, Fact.wrap_u64]
 refine hK.out _ _ ?_; clear hK K
 refine Fact.p rfl fun K hK => ?_
 go_simp
 try simp (disch := omega) only [Fact.wrap_i64, Fact.wrap_u8, Fact.wrap_u32, Fact.wrap_u64]
 refine hK.out _ _ ?_; clear hK K
 refine Fact.p rfl fun K hK => ?_
 go_simp
 try simp (disch := omega) only [Fact.wrap_i64, Fact.wrap_u8, Fact.wrap_u32, Fact.wrap_u64]
 refine hK.out _ _ ?_; clear hK K
 refine Fact.p rfl fun K hK => ?_
 go_simp
 refine hK.out _ _ ?_; clear hK K
 refine Fact.nil ?_
 refine Fact.q hf (by simp only [Fact.G]) rfl fun fr1 hf1 hT => ?_
 have hKp : _ ∧ _ ∧ _ ∧ _ ∧ _ ∧ _ ∧ _ ∧ _ ∧ _ ∧ _ ∧ _ ∧ _ ∧ _ ∧ _ := ⟨hT 0, hT 1, hT 6, hT 7, hT 8, hT 9, hT 26, hT 27, hT 28, hT 29, hT 30, hT 31, hT 32, hT 33⟩
 simp only [Fact.G, Nat.reduceEqDiff, Nat.reduceLT, hf.size, reduceIte, s0, s1, s6, s7, s8, s9] at hKp
 clear hT hf s0 s1 s6 s7 s8 s9 b26 b27 b28 b29 b30 b31 b32
 obtain ⟨s0, s1, s6, s7, s8, s9, s26, s27, s28, s29, s30, s31, s32, s33⟩ := hKp
 have hf := hf1; clear hf1
 refine Fact.nx (hK7 _ _ ?_)
 refine Fact.cond_t s33 ?_
 refine wp_skip ?_
 refine Fact.nx (hK6 _ _ ?_)
 refine wp_seq_k (fun K8 hK8 => ?_)
 refine wp_block ?_
 refine wp_seq_k (fun K9 hK9 => ?_)
 refine Fact.region ?_
 have b36 := hf.l 36 rfl
 have b37 := hf.l 37 rfl
 have b38 := hf.l 38 rfl
 have b39 := hf.l 39 rfl
 have b40 := hf.l 40 rfl
 refine Fact.p rfl fun K hK => ?_
 go_simp
 go_at_call 94; refine (next_any s wr hr).mono ?_; rintro e w3 ⟨X, rfl, hX, hr3, ho3⟩
 have ha3 := ha.only ho3 hgs
 have ho4 : Only w w3 g := ho.trans_new ho3 hsle
 obtain ⟨o, ho0⟩ : ∃ o : Nat, o = X &&& (M - 1) := ⟨_, rfl⟩
 have lo : o ≤ M - 1 := by rw [ho0]; exact Nat.and_le_right
 have eA : bits .and .u64 (X : Int) ((M : Int) - 1) = (o : Int) := by rw [show ((M : Int) - 1) = ((M - 1 : Nat) : Int) by omega, bits_and_u64_nat _ _ hX (by omega), ho0]
 have eM : IntKind.u64.wrap ((M : Int) - 1) = (M : Int) - 1 := Fact.wrap_u64 (by omega) (by omega)
 have eo : IntKind.i64.wrap (o : Int) = (o : Int) := Fact.wrap_i64 (by omega) (by omega)
 clear ho0 ha ho ho3 hr
 dsimp only
 refine hK.out _ _ ?_; clear hK K
 refine Fact.p rfl fun K hK => ?_
 go_simp
 refine hK.out _ _ ?_; clear hK K
 refine Fact.p rfl fun K hK => ?_
 go_simp
 try simp (disch := omega) only [Fact.wrap_i64, Fact.wrap_u8, Fact.wrap_u32, Fact.wrap_u64]
 refine hK.out _ _ ?_; clear hK K
 refine Fact.p rfl fun K hK => ?_
 go_simp
 try simp only [eA]
 refine hK.out _ _ ?_; clear hK K
 refine Fact.p rfl fun K hK => ?_
 go_simp
 refine hK.out _ _ ?_; clear hK K
 refine Fact.p rfl fun K hK => ?_
 go_simp
 refine hK.out _ _ ?_; clear hK K
 refine Fact.nil ?_
 refine Fact.q hf (by simp only [Fact.G]) rfl fun fr1 hf1 hT => ?_
 have hKp : _ ∧ _ ∧ _ ∧ _ ∧ _ ∧ _ ∧ _ ∧ _ ∧ _ ∧ _ ∧ _ ∧ _ ∧ _ ∧ _ ∧ _ ∧ _ ∧ _ ∧ _ ∧ _ ∧ _ := ⟨hT 0, hT 1, hT 6, hT 7, hT 8, hT 9, hT 10, hT 26, hT 27, hT 28, hT 29, hT 30, hT 31, hT 32, hT 33, hT 36, hT 37, hT 38, hT 39, hT 40⟩
 simp only [Fact.G, Nat.reduceEqDiff, Nat.reduceLT, hf.size, reduceIte, s0, s1, s6, s7, s8, s9, s26, s27, s28, s29, s30, s31, s32, s33] at hKp
 clear hT hf s0 s1 s6 s7 s8 s9 s26 s27 s28 s29 s30 s31 s32 s33 b36 b37 b38 b39 b40
 obtain ⟨s0, s1, s6, s7, s8, s9, s10, s26, s27, s28, s29, s30, s31, s32, s33, s36, s37, s38, s39, s40⟩ := hKp
 have hf := hf1; clear hf1
 refine Fact.nx (hK9 _ _ ?_)
 refine Fact.seq_meet (fun fr w4 => ∃ o : Nat, o < l ∧ Fact.Fr 65 fr ∧ fr.tmps[0]? = some (.slice (some ⟨g, 0, none⟩) n c) ∧ fr.tmps[1]? = some (.int .i64 a) ∧ fr.tmps[6]? = some (.int .i64 l) ∧ fr.tmps[7]? = some (.pointer (some ⟨s, 0, none⟩)) ∧ fr.tmps[8]? = some (.int .u64 M) ∧ fr.tmps[9]? = some (.int .i64 m) ∧ fr.tmps[10]? = some (.int .i64 o) ∧ Rnd w4 s ∧ Arr w4 g ys ∧ Only w w4 g) ?_ ?_
 · (
 by_cases hol : l ≤ o
 · (
 have holI : (l : Int) ≤ (o : Int) := by omega
 have eol : IntKind.i64.wrap ((o : Int) - (l : Int)) = ((o - l : Nat) : Int) := by rw [Fact.wrap_i64 (by omega) (by omega)]; omega
 refine wp_seq_k (fun K10 hK10 => ?_)
 refine Fact.region ?_
 have b41 := hf.l 41 rfl
 have b42 := hf.l 42 rfl
 refine Fact.p rfl fun K hK => ?_
 go_simp
 refine hK.out _ _ ?_; clear hK K
 refine Fact.p rfl fun K hK => ?_
 go_simp
 refine hK.out _ _ ?_; clear hK K
 refine Fact.p rfl fun K hK => ?_
 go_simp
 refine hK.out _ _ ?_; clear hK K
 refine Fact.nil ?_
 refine Fact.q hf (by simp only [Fact.G]) rfl fun fr1 hf1 hT => ?_
 have hKp : _ ∧ _ ∧ _ ∧ _ ∧ _ ∧ _ ∧ _ ∧ _ ∧ _ ∧ _ ∧ _ ∧ _ ∧ _ ∧ _ ∧ _ ∧ _ ∧ _ ∧ _ ∧ _ ∧ _ ∧ _ ∧ _ ∧ _ := ⟨hT 0, hT 1, hT 6, hT 7, hT 8, hT 9, hT 10, hT 26, hT 27, hT 28, hT 29, hT 30, hT 31, hT 32, hT 33, hT 36, hT 37, hT 38, hT 39, hT 40, hT 41, hT 42, hT 43⟩
 simp only [Fact.G, Nat.reduceEqDiff, Nat.reduceLT, hf.size, reduceIte, s0, s1, s6, s7, s8, s9, s10, s26, s27, s28, s29, s30, s31, s32, s33, s36, s37, s38, s39, s40] at hKp
 clear hT hf s0 s1 s6 s7 s8 s9 s10 s26 s27 s28 s29 s30 s31 s32 s33 s36 s37 s38 s39 s40 b41 b42
 obtain ⟨s0, s1, s6, s7, s8, s9, s10, s26, s27, s28, s29, s30, s31, s32, s33, s36, s37, s38, s39, s40, s41, s42, s43⟩ := hKp
 have hf := hf1; clear hf1
 refine Fact.nx (hK10 _ _ ?_)
 refine Fact.cond_t s43 ?_
 refine Fact.region ?_
 have b44 := hf.l 44 rfl
 have b45 := hf.l 45 rfl
 have b46 := hf.l 46 rfl
 refine Fact.p rfl fun K hK => ?_
 go_simp
 refine hK.out _ _ ?_; clear hK K
 refine Fact.p rfl fun K hK => ?_
 go_simp
 refine hK.out _ _ ?_; clear hK K
 refine Fact.p rfl fun K hK => ?_
 go_simp
 try simp (disch := omega) only [Fact.wrap_i64, Fact.wrap_u8, Fact.wrap_u32, Fact.wrap_u64]
 refine hK.out _ _ ?_; clear hK K
 refine Fact.p rfl fun K hK => ?_
 go_simp
 refine hK.out _ _ ?_; clear hK K
 refine Fact.nil ?_
 refine Fact.q hf (by simp only [Fact.G]) rfl fun fr1 hf1 hT => ?_
 have hKp : _ ∧ _ ∧ _ ∧ _ ∧ _ ∧ _ ∧ _ ∧ _ ∧ _ ∧ _ ∧ _ ∧ _ ∧ _ ∧ _ ∧ _ ∧ _ ∧ _ ∧ _ ∧ _ ∧ _ ∧ _ ∧ _ ∧ _ ∧ _ ∧ _ ∧ _ := ⟨hT 0, hT 1, hT 6, hT 7, hT 8, hT 9, hT 10, hT 26, hT 27, hT 28, hT 29, hT 30, hT 31, hT 32, hT 33, hT 36, hT 37, hT 38, hT 39, hT 40, hT 41, hT 42, hT 43, hT 44, hT 45, hT 46⟩
 simp only [Fact.G, Nat.reduceEqDiff, Nat.reduceLT, hf.size, reduceIte, s0, s1, s6, s7, s8, s9, s26, s27, s28, s29, s30, s31, s32, s33, s36, s37, s38, s39, s40, s41, s42, s43] at hKp
 clear hT hf s0 s1 s6 s7 s8 s9 s10 s26 s27 s28 s29 s30 s31 s32 s33 s36 s37 s38 s39 s40 s41 s42 s43 b44 b45 b46
 obtain ⟨s0, s1, s6, s7, s8, s9, s10, s26, s27, s28, s29, s30, s31, s32, s33, s36, s37, s38, s39, s40, s41, s42, s43, s44, s45, s46⟩ := hKp
 have hf := hf1; clear hf1
 refine Fact.then_normal ?_
 exact ⟨o - l, by omega, hf, s0, s1, s6, s7, s8, s9, (by first | exact s10 | (rw [s10]; go_num)), hr3, ha3, ho4⟩)
 · (
 have holI : ¬ (l : Int) ≤ (o : Int) := by omega
 refine wp_seq_k (fun K11 hK11 => ?_)
 refine Fact.region ?_
 have b41 := hf.l 41 rfl
 have b42 := hf.l 42 rfl
 refine Fact.p rfl fun K hK => ?_
 go_simp
 refine hK.out _ _ ?_; clear hK K
 refine Fact.p rfl fun K hK => ?_
 go_simp
 refine hK.out _ _ ?_; clear hK K
 refine Fact.p rfl fun K hK => ?_
 go_simp
 refine hK.out _ _ ?_; clear hK K
 refine Fact.nil ?_
 refine Fact.q hf (by simp only [Fact.G]) rfl fun fr1 hf1 hT => ?_
 have hKp : _ ∧ _ ∧ _ ∧ _ ∧ _ ∧ _ ∧ _ ∧ _ ∧ _ ∧ _ ∧ _ ∧ _ ∧ _ ∧ _ ∧ _ ∧ _ ∧ _ ∧ _ ∧ _ ∧ _ ∧ _ ∧ _ ∧ _ := ⟨hT 0, hT 1, hT 6, hT 7, hT 8, hT 9, hT 10, hT 26, hT 27, hT 28, hT 29, hT 30, hT 31, hT 32, hT 33, hT 36, hT 37, hT 38, hT 39, hT 40, hT 41, hT 42, hT 43⟩
 simp only [Fact.G, Nat.reduceEqDiff, Nat.reduceLT, hf.size, reduceIte, s0, s1, s6, s7, s8, s9, s10, s26, s27, s28, s29, s30, s31, s32, s33, s36, s37, s38, s39, s40] at hKp
 clear hT hf s0 s1 s6 s7 s8 s9 s10 s26 s27 s28 s29 s30 s31 s32 s33 s36 s37 s38 s39 s40 b41 b42
 obtain ⟨s0, s1, s6, s7, s8, s9, s10, s26, s27, s28, s29, s30, s31, s32, s33, s36, s37, s38, s39, s40, s41, s42, s43⟩ := hKp
 have hf := hf1; clear hf1
 refine Fact.nx (hK11 _ _ ?_)
 refine Fact.cond_f s43 ?_
 refine wp_skip ?_
 refine Fact.then_normal ?_
 exact ⟨o, by omega, hf, s0, s1, s6, s7, s8, s9, s10, hr3, ha3, ho4⟩))
 · (
 clear hf s0 s1 s6 s7 s8 s9 s10 s26 s27 s28 s29 s30 s31 s32 s33 s36 s37 s38 s39 s40
 clear hr3 ha3 ho4 lo eA eM eo
 rintro fr w4 ⟨o, hol, hf, s0, s1, s6, s7, s8, s9, s10, hr, ha, ho⟩
 clear e4 e5 e7 e8 e3
 obtain ⟨p2, hp2⟩ : ∃ p : Nat, p = a + o := ⟨_, rfl⟩
 have e1 : IntKind.i64.wrap ((a : Int) + (o : Int)) = (p2 : Int) := by rw [Fact.wrap_i64 (by omega) (by have := HL.out; omega)]; omega
 have b1 : m < n := by have := HP0.out; have := HQ.out; have := HL.out; omega
 have b2 : p2 < n := by have := HL.out; omega
 have HP2 := Lib.hid hp2; clear hp2
 obtain ⟨x, hx⟩ : ∃ v, ys[m]? = some v := ⟨ys[m]'(by have := HYL.out; omega), List.getElem?_eq_getElem _⟩
 have Hxd := Lib.hid (show ys.getD (m) 0 = x by simp [List.getD, hx])
 have Hx := Lib.hid hx
 clear hx
 obtain ⟨y, hy⟩ : ∃ v, ys[p2]? = some v := ⟨ys[p2]'(by have := HYL.out; omega), List.getElem?_eq_getElem _⟩
 have Hyd := Lib.hid (show ys.getD (p2) 0 = y by simp [List.getD, hy])
 have Hy := Lib.hid hy
 clear hy
 have HR := Lib.hid hr; clear hr
 have cx := ha.cell Hx.out; have cy := ha.cell Hy.out; have hfr := fun k => ha.frozen k
 have A1 := Lib.hid (ha.drew.set_ (m) y)
 have A0 := Lib.hid (ha.set_ (m) y)
 have C1 := A0.out.cell (i := p2) (x := y) (set_get Hy.out)
 have F1 := A0.out.frozen (p2)
 have A2 := Lib.hid (A1.out.set_ (p2) x)
 have O2 := Lib.hid ((ho.drew.set_ (p := ⟨g, m, none⟩) (.inl rfl) (.int .u8 y)).set_ (p := ⟨g, p2, none⟩) (.inl rfl) (.int .u8 x))
 clear ho ha
 refine Stage.begin_ (n := 65) [17, 19] (fun k w1 => w1 = [w4.drew, (w4.drew.setCell ⟨g, m, none⟩ (.int .u8 y)), ((w4.drew.setCell ⟨g, m, none⟩ (.int .u8 y)).setCell ⟨g, p2, none⟩ (.int .u8 x))].getD k (w4.drew)) (Stab.OkOps.of (by kernel_rfl)) (fun hok => ?_)
 refine Stage.mvO (k := 0) s0 hf.size hok.out rfl rfl rfl (.inl rfl) (by kernel_rfl) (by kernel_rfl) ?_
 refine Stage.mvO (k := 1) s9 hf.size hok.out rfl rfl rfl (.inl rfl) (by kernel_rfl) (by kernel_rfl) ?_
 refine Stage.mvO (k := 2) s0 hf.size hok.out rfl rfl rfl (.inl rfl) (by kernel_rfl) (by kernel_rfl) ?_
 refine Stage.mvO (k := 3) s1 hf.size hok.out rfl rfl rfl (.inl rfl) (by kernel_rfl) (by kernel_rfl) ?_
 refine Stage.mvO (k := 4) s10 hf.size hok.out rfl rfl rfl (.inl rfl) (by kernel_rfl) (by kernel_rfl) ?_
 apply Stage.t 5 _ hf.size hok.out rfl (by kernel_rfl)
 · (
 intro fr1 w1 hh hd hk K hK
 refine Stab.op_plain (o := _) rfl rfl ?_
 have s50 := Stage.u 3 1 hd hk rfl [] (by kernel_rfl) rfl rfl rfl
 have s51 := Stage.u 4 0 hd hk rfl [] (by kernel_rfl) rfl rfl rfl
 clear hd
 go_simp
 exact hK.out _ rfl _ rfl)
 refine Stage.mvO (k := 6) s0 hf.size hok.out rfl rfl rfl (.inl rfl) (by kernel_rfl) (by kernel_rfl) ?_
 refine Stage.mvO (k := 7) s1 hf.size hok.out rfl rfl rfl (.inl rfl) (by kernel_rfl) (by kernel_rfl) ?_
 refine Stage.mvO (k := 8) s10 hf.size hok.out rfl rfl rfl (.inl rfl) (by kernel_rfl) (by kernel_rfl) ?_
 apply Stage.t 9 _ hf.size hok.out rfl (by kernel_rfl)
 · (
 intro fr1 w1 hh hd hk K hK
 refine Stab.op_plain (o := _) rfl rfl ?_
 have s54 := Stage.u 7 1 hd hk rfl [] (by kernel_rfl) rfl rfl rfl
 have s55 := Stage.u 8 0 hd hk rfl [] (by kernel_rfl) rfl rfl rfl
 clear hd
 go_simp
 exact hK.out _ rfl _ rfl)
 apply Stage.t 10 _ hf.size hok.out rfl (by kernel_rfl)
 · (
 intro fr1 w1 hh hd hk K hK
 refine Stab.op_plain (o := _) rfl rfl ?_
 have s53 := Stage.u 6 3 hd hk rfl [] (by kernel_rfl) rfl rfl rfl
 have s56 := Stage.u 9 0 hd hk rfl [] (by kernel_rfl) rfl rfl rfl
 clear hd
 go_simp
 exact hK.out _ rfl _ rfl)
 apply Stage.todo_look (k := 11) (n := 65) 0 [] [] _ hf.size hok.out rfl (by kernel_rfl)
 · (
 intro fr1 w1 hh hw hd hk K hK
 replace hw : w1 = w4.drew := hw
 subst hw
 refine Stab.op_plain (o := _) rfl rfl ?_
 have s57 := Stage.u 10 0 hd hk rfl [] (by kernel_rfl) rfl rfl rfl
 clear hd
 go_simp
 exact hK.out _ rfl _ _ rfl rfl)
 refine Stage.mvO (k := 12) s0 hf.size hok.out rfl rfl rfl (.inl rfl) (by kernel_rfl) (by kernel_rfl) ?_
 refine Stage.mvO (k := 13) s9 hf.size hok.out rfl rfl rfl (.inl rfl) (by kernel_rfl) (by kernel_rfl) ?_
 apply Stage.t 14 _ hf.size hok.out rfl (by kernel_rfl)
 · (
 intro fr1 w1 hh hd hk K hK
 refine Stab.op_plain (o := _) rfl rfl ?_
 have s59 := Stage.u 12 1 hd hk rfl [] (by kernel_rfl) rfl rfl rfl
 have s60 := Stage.u 13 0 hd hk rfl [] (by kernel_rfl) rfl rfl rfl
 clear hd
 go_simp
 exact hK.out _ rfl _ rfl)
 apply Stage.todo_look (k := 15) (n := 65) 0 [] [] _ hf.size hok.out rfl (by kernel_rfl)
 · (
 intro fr1 w1 hh hw hd hk K hK
 replace hw : w1 = w4.drew := hw
 subst hw
 refine Stab.op_plain (o := _) rfl rfl ?_
 have s61 := Stage.u 14 0 hd hk rfl [] (by kernel_rfl) rfl rfl rfl
 clear hd
 go_simp
 exact hK.out _ rfl _ _ rfl rfl)
 apply Stage.t 16 _ hf.size hok.out rfl (by kernel_rfl)
 · (
 intro fr1 w1 hh hd hk K hK
 refine Stab.op_plain (o := _) rfl rfl ?_
 have s47 := Stage.u 0 15 hd hk rfl [] (by kernel_rfl) rfl rfl rfl
 have s48 := Stage.u 1 14 hd hk rfl [] (by kernel_rfl) rfl rfl rfl
 clear hd
 go_simp
 exact hK.out _ rfl _ rfl)
 refine Stage.todo_lead (k := 17) (n := 65) 0 [] (fun _ => True) hf.size hok.out rfl (by kernel_rfl) ?_ ?_
 · (
 intro fr1 w1 hh hw hd hk K hK
 replace hw : w1 = w4.drew := hw
 subst hw
 refine Stab.op_plain (o := _) rfl rfl ?_
 have s63 := Stage.u 16 0 hd hk rfl [] (by kernel_rfl) rfl rfl rfl
 have s58 := Stage.u 11 5 hd hk rfl [] (by kernel_rfl) rfl rfl rfl
 clear hd
 go_simp
 exact hK.out _ rfl undef _ rfl trivial)
 apply Stage.t 18 _ hf.size hok.out rfl (by kernel_rfl)
 · (
 intro fr1 w1 hh hd hk K hK
 refine Stab.op_plain (o := _) rfl rfl ?_
 have s49 := Stage.u 2 15 hd hk rfl [] (by kernel_rfl) rfl rfl rfl
 have s52 := Stage.u 5 12 hd hk rfl [] (by kernel_rfl) rfl rfl rfl
 clear hd
 go_simp
 exact hK.out _ rfl _ rfl)
 refine Stage.todo_lead (k := 19) (n := 65) 1 [] (fun _ => True) hf.size hok.out rfl (by kernel_rfl) ?_ ?_
 · (
 intro fr1 w1 hh hw hd hk K hK
 replace hw : w1 = (w4.drew.setCell ⟨g, m, none⟩ (.int .u8 y)) := hw
 subst hw
 refine Stab.op_plain (o := _) rfl rfl ?_
 have s64 := Stage.u 18 0 hd hk rfl [] (by kernel_rfl) rfl rfl rfl
 have s62 := Stage.u 15 3 hd hk rfl [] (by kernel_rfl) rfl rfl rfl
 clear hd
 go_simp
 exact hK.out _ rfl undef _ rfl trivial)
 refine Stage.todo_facts (n := 65) (by kernel_rfl) hf.size hok.out rfl (by decide) (by decide) rfl (fun fr1 w1 hh hg hw => ?_)
 replace hw : w1 = ((w4.drew.setCell ⟨g, m, none⟩ (.int .u8 y)).setCell ⟨g, p2, none⟩ (.int .u8 x)) := hw
 subst hw
 replace s0 := Stage.o hh (by kernel_rfl) s0
 replace s1 := Stage.o hh (by kernel_rfl) s1
 replace s6 := Stage.o hh (by kernel_rfl) s6
 replace s7 := Stage.o hh (by kernel_rfl) s7
 replace s8 := Stage.o hh (by kernel_rfl) s8
 replace s9 := Stage.o hh (by kernel_rfl) s9
 replace s10 := Stage.o hh (by kernel_rfl) s10
 have s47 := Stage.e 0 19 hg rfl rfl rfl rfl
 have s48 := Stage.e 1 18 hg rfl rfl rfl rfl
 have s49 := Stage.e 2 17 hg rfl rfl rfl rfl
 have s50 := Stage.e 3 16 hg rfl rfl rfl rfl
 have s51 := Stage.e 4 15 hg rfl rfl rfl rfl
 have s52 := Stage.e 5 14 hg rfl rfl rfl rfl
 have s53 := Stage.e 6 13 hg rfl rfl rfl rfl
 have s54 := Stage.e 7 12 hg rfl rfl rfl rfl
 have s55 := Stage.e 8 11 hg rfl rfl rfl rfl
 have s56 := Stage.e 9 10 hg rfl rfl rfl rfl
 have s57 := Stage.e 10 9 hg rfl rfl rfl rfl
 have s58 := Stage.e 11 8 hg rfl rfl rfl rfl
 have s59 := Stage.e 12 7 hg rfl rfl rfl rfl
 have s60 := Stage.e 13 6 hg rfl rfl rfl rfl
 have s61 := Stage.e 14 5 hg rfl rfl rfl rfl
 have s62 := Stage.e 15 4 hg rfl rfl rfl rfl
 have s63 := Stage.e 16 3 hg rfl rfl rfl rfl
 have s64 := Stage.e 18 1 hg rfl rfl rfl rfl
 have hf1 : Fact.Fr 65 fr1 := ⟨hh.size.trans hf.size, hh.defers.trans hf.defers⟩
 clear hg hh hf
 have hf := hf1; clear hf1
 clear hok
 have ha3 := A2.out; rw [show (ys.set m y).set p2 x = swap ys m p2 by unfold swap; rw [Hxd.out, Hyd.out]] at ha3
 have ho3 := O2.out
 have hr3 : Rnd ((w4.drew.setCell ⟨g, m, none⟩ (.int .u8 y)).setCell ⟨g, p2, none⟩ (.int .u8 x)) s := by
   obtain ⟨t, X, hX, hh⟩ := HR.out
   exact ⟨t, X, hX, (Below.heap_setCell _ ⟨g, p2, none⟩ _ s (Ne.symm hgs)).trans ((Below.heap_setCell _ ⟨g, m, none⟩ _ s (Ne.symm hgs)).trans hh)⟩
 clear A0 A1 A2 O2 C1 F1 cx cy hfr Hx Hxd Hy Hyd HR
 generalize ((w4.drew.setCell ⟨g, m, none⟩ (.int .u8 y)).setCell ⟨g, p2, none⟩ (.int .u8 x)) = wu at *
 have e9 : IntKind.i64.wrap ((m : Int) + 1) = ((m + 1 : Nat) : Int) := by rw [Fact.wrap_i64 (by omega) (by omega)]; omega
 refine Fact.block_normal ?_
 refine Fact.nx (hK8 _ _ ?_)
 refine Fact.region ?_
 have b34 := hf.l 34 rfl
 have b35 := hf.l 35 rfl
 refine Fact.p rfl fun K hK => ?_
 go_simp
 refine hK.out _ _ ?_; clear hK K
 refine Fact.p rfl fun K hK => ?_
 go_simp
 try simp (disch := omega) only [Fact.wrap_i64, Fact.wrap_u8, Fact.wrap_u32, Fact.wrap_u64]
 refine hK.out _ _ ?_; clear hK K
 refine Fact.p rfl fun K hK => ?_
 go_simp
 refine hK.out _ _ ?_; clear hK K
 refine Fact.nil ?_
 refine Fact.q hf (by simp only [Fact.G]) rfl fun fr1 hf1 hT => ?_
 have hKp : _ ∧ _ ∧ _ ∧ _ ∧ _ ∧ _ ∧ _ ∧ _ ∧ _ ∧ _ ∧ _ ∧ _ ∧ _ ∧ _ ∧ _ ∧ _ ∧ _ ∧ _ ∧ _ ∧ _ ∧ _ ∧ _ ∧ _ ∧ _ ∧ _ ∧ _ ∧ _ := ⟨hT 0, hT 1, hT 6, hT 7, hT 8, hT 9, hT 10, hT 34, hT 35, hT 47, hT 48, hT 49, hT 50, hT 51, hT 52, hT 53, hT 54, hT 55, hT 56, hT 57, hT 58, hT 59, hT 60, hT 61, hT 62, hT 63, hT 64⟩
 simp only [Fact.G, Nat.reduceEqDiff, Nat.reduceLT, hf.size, reduceIte, s0, s1, s6, s7, s8, s10, s47, s48, s49, s50, s51, s52, s53, s54, s55, s56, s57, s58, s59, s60, s61, s62, s63, s64] at hKp
 clear hT hf s0 s1 s6 s7 s8 s9 s10 s47 s48 s49 s50 s51 s52 s53 s54 s55 s56 s57 s58 s59 s60 s61 s62 s63 s64 b34 b35
 obtain ⟨s0, s1, s6, s7, s8, s9, s10, s34, s35, s47, s48, s49, s50, s51, s52, s53, s54, s55, s56, s57, s58, s59, s60, s61, s62, s63, s64⟩ := hKp
 have hf := hf1; clear hf1
 refine Fact.then_normal ?_
 exact ⟨p0 + 3 - (m + 1), by have := HK.out; omega, m + 1, swap ys m p2, rfl, by omega, by omega, hf, s0, s1, s6, s7, s8, (by first | exact s9 | (rw [s9]; go_num)), hsg.swap (by have := HP0.out; have := HQ.out; have := HL.out; omega) (by have := HP0.out; have := HQ.out; have := HL.out; omega) (by have := HP2.out; omega) (by have := HP2.out; have := HL.out; omega), hr3, ha3, ho3⟩))
 · (
 have hltI : ¬ (m : Int) ≤ (p0 : Int) + 2 := by omega
 refine wp_seq_k (fun K12 hK12 => ?_)
 refine wp_seq_k (fun K13 hK13 => ?_)
 refine Fact.region ?_
 have b26 := hf.l 26 rfl
 have b27 := hf.l 27 rfl
 have b28 := hf.l 28 rfl
 have b29 := hf.l 29 rfl
 have b30 := hf.l 30 rfl
 have b31 := hf.l 31 rfl
 have b32 := hf.l 32 rfl
 refine Fact.p rfl fun K hK => ?_
 go_simp
 refine hK.out _ _ ?_; clear hK K
 refine Fact.p rfl fun K hK => ?_
 go_simp
 refine hK.out _ _ ?_; clear hK K
 refine Fact.p rfl fun K hK => ?_
 go_simp
 refine hK.out _ _ ?_; clear hK K
 refine Fact.p rfl fun K hK => ?_
 go_simp
 refine hK.out _ _ ?_; clear hK K
 refine Fact.p rfl fun K hK => ?_
 go_simp
 try simp (disch := omega) only [Fact.wrap_i64, Fact.wrap_u8, Fact.wrap_u32, Fact.wrap_u64]
 refine hK.out _ _ ?_; clear hK K
 refine Fact.p rfl fun K hK => ?_
 go_simp
 try simp (disch := omega) only [Fact.wrap_i64, Fact.wrap_u8, Fact.wrap_u32, Fact.wrap_u64]
 refine hK.out _ _ ?_; clear hK K
 refine Fact.p rfl fun K hK => ?_
 go_simp
 try simp (disch := omega) only [Fact.wrap_i64, Fact.wrap_u8, Fact.wrap_u32, Fact.wrap_u64]
 refine hK.out _ _ ?_; clear hK K
 refine Fact.p rfl fun K hK => ?_
 go_simp
 refine hK.out _ _ ?_; clear hK K
 refine Fact.nil ?_
 refine Fact.q hf (by simp only [Fact.G]) rfl fun fr1 hf1 hT => ?_
 have hKp : _ ∧ _ ∧ _ ∧ _ ∧ _ ∧ _ ∧ _ ∧ _ ∧ _ ∧ _ ∧ _ ∧ _ ∧ _ ∧ _ := ⟨hT 0, hT 1, hT 6, hT 7, hT 8, hT 9, hT 26, hT 27, hT 28, hT 29, hT 30, hT 31, hT 32, hT 33⟩
 simp only [Fact.G, Nat.reduceEqDiff, Nat.reduceLT, hf.size, reduceIte, s0, s1, s6, s7, s8, s9] at hKp
 clear hT hf s0 s1 s6 s7 s8 s9 b26 b27 b28 b29 b30 b31 b32
 obtain ⟨s0, s1, s6, s7, s8, s9, s26, s27, s28, s29, s30, s31, s32, s33⟩ := hKp
 have hf := hf1; clear hf1
 refine Fact.nx (hK13 _ _ ?_)
 refine Fact.cond_f s33 ?_
 refine wp_exit ?_
 refine Fact.then_exit ?_
 refine Fact.then_exit ?_
 refine Fact.block_exit ?_
 exact Fact.end0 rfl hf ⟨rfl, ys, hsg, ha, ho⟩))
end Sb
end Go.Proofs.Ytfgfichkcckhiaa
