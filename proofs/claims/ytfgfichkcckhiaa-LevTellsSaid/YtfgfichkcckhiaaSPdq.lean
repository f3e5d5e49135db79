/- slices.pdqsortOrdered at bytes: a stretch is sorted. -/
import Derived.Test.YtfgfichkcckhiaaSIns
import Derived.Test.YtfgfichkcckhiaaSHeap
import Derived.Test.YtfgfichkcckhiaaSBrk
import Derived.Test.YtfgfichkcckhiaaSPiv
import Derived.Test.YtfgfichkcckhiaaSRev
import Derived.Test.YtfgfichkcckhiaaSPin
import Derived.Test.YtfgfichkcckhiaaSPartE
import Derived.Test.YtfgfichkcckhiaaSPart
import Derived.Test.YtfgfichkcckhiaaSPdq0
namespace Go.Proofs.Ytfgfichkcckhiaa
open Go.RowKit
set_option linter.unusedSimpArgs false
set_option linter.unusedVariables false
set_option linter.unnecessarySimpa false
namespace Sb
set_option maxHeartbeats 4000000 in
set_option maxRecDepth 100000 in
theorem pdq_any (g n c : Nat) (hnl : n ≤ 400000000) : ∀ (k : Nat) (zs : List Int) (a b lim : Nat) (w : World), zs.length = n → b - a = k → a ≤ b → b ≤ n → lim ≤ 1000 → Low a b zs → Arr w g zs → Calls Try.prog 70 #[.slice (some ⟨g, 0, none⟩) n c, .int .i64 a, .int .i64 b, .int .i64 lim] w fun e w1 => e = .returned (.tuple #[]) ∧ ∃ ys, Segm a b zs ys ∧ SortedOn a b ys ∧ Arr w1 g ys ∧ Only w w1 g := by
 intro k
 induction k using Nat.strongRecOn with
 | _ k ih =>
  intro zs A B lim0 w hn hk hAB hB hlim0 hlow h
  have IH := Lib.hid ih; have HN := Lib.hid hn; have HKK := Lib.hid hk; have LOW := Lib.hid hlow; clear ih hn hk hlow
  refine calls_of_wp Try.func70 rfl ?_
  refine Fact.enter (n := 134) (by kernel_rfl) (fun fr hf hT => ?_)
  have s0 := hT 0 _ rfl
  have s1 := hT 1 _ rfl
  have s2 := hT 2 _ rfl
  have s3 := hT 3 _ rfl
  clear hT
  refine wp_seq_k (fun K1 hK1 => ?_)
  refine Fact.region ?_
  refine Fact.p rfl fun K hK => ?_
  go_simp
  refine hK.out _ _ ?_; clear hK K
  refine Fact.nil ?_
  refine Fact.q hf (by simp only [Fact.G]) rfl fun fr1 hf1 hT => ?_
  have hKp : _ ∧ _ ∧ _ ∧ _ ∧ _ := ⟨hT 0, hT 1, hT 2, hT 3, hT 8⟩
  simp only [Fact.G, Nat.reduceEqDiff, Nat.reduceLT, hf.size, reduceIte, s0, s1, s2, s3] at hKp
  clear hT hf s0 s1 s2 s3
  obtain ⟨s0, s1, s2, s3, s8⟩ := hKp
  have hf := hf1; clear hf1
  refine Fact.nx (hK1 _ _ ?_)
  refine wp_seq_k (fun K2 hK2 => ?_)
  refine Fact.region ?_
  refine Fact.p rfl fun K hK => ?_
  go_simp
  refine hK.out _ _ ?_; clear hK K
  refine Fact.nil ?_
  refine Fact.q hf (by simp only [Fact.G]) rfl fun fr1 hf1 hT => ?_
  have hKp : _ ∧ _ ∧ _ ∧ _ ∧ _ ∧ _ := ⟨hT 0, hT 1, hT 2, hT 3, hT 8, hT 9⟩
  simp only [Fact.G, Nat.reduceEqDiff, Nat.reduceLT, hf.size, reduceIte, s0, s1, s2, s3, s8] at hKp
  clear hT hf s0 s1 s2 s3 s8
  obtain ⟨s0, s1, s2, s3, s8, s9⟩ := hKp
  have hf := hf1; clear hf1
  refine Fact.nx (hK2 _ _ ?_)
  refine wp_block ?_
  refine wp_loop_ghost (fun gk fr wr => ∃ (a b lim : Nat) (q1 q2 : Bool) (ys : List Int), gk = b - a ∧ lim ≤ 1000 ∧ Fit A B a b ys ∧ Fact.Fr 134 fr ∧ fr.tmps[0]? = some (.slice (some ⟨g, 0, none⟩) n c) ∧ fr.tmps[1]? = some (.int .i64 a) ∧ fr.tmps[2]? = some (.int .i64 b) ∧ fr.tmps[3]? = some (.int .i64 lim) ∧ fr.tmps[8]? = some (.bool q1) ∧ fr.tmps[9]? = some (.bool q2) ∧ Segm A B zs ys ∧ Arr wr g ys ∧ Only w wr g) (B - A) ?_ ?_
  · (
 exact ⟨A, B, lim0, true, true, zs, rfl, hlim0, Fit.start hAB (by rw [HN.out]; exact hB), hf, s0, s1, s2, s3, s8, s9, Segm.refl _ _ _, h, Only.refl _ _⟩)
  · (
 clear hf s0 s1 s2 s3 s8 s9
 clear h
 rintro gk fr wr ⟨a, b, lim, q1, q2, ys, hk, hlim, hfit, hf, s0, s1, s2, s3, s8, s9, hsg, ha, ho⟩
 have HK := Lib.hid hk; clear hk
 have HYL := Lib.hid (show ys.length = n by rw [hsg.len]; exact HN.out)
 obtain ⟨hA, hab, hbB, _⟩ := hfit.ends
 obtain ⟨l, hl⟩ : ∃ m : Nat, m = b - a := ⟨_, rfl⟩
 have e1 : IntKind.i64.wrap ((b : Int) - (a : Int)) = (l : Int) := by rw [Fact.wrap_i64 (by omega) (by omega)]; omega
 have HL := Lib.hid hl; clear hl
 by_cases h12 : l ≤ 12
 · (
 have h12I : (l : Int) ≤ 12 := by omega
 refine wp_block ?_
 refine wp_seq_k (fun K3 hK3 => ?_)
 refine Fact.region ?_
 have b19 := hf.l 19 rfl
 have b20 := hf.l 20 rfl
 have b21 := hf.l 21 rfl
 refine Fact.p rfl fun K hK => ?_
 go_simp
 refine hK.out _ _ ?_; clear hK K
 refine Fact.p rfl fun K hK => ?_
 go_simp
 refine hK.out _ _ ?_; clear hK K
 refine Fact.p rfl fun K hK => ?_
 go_simp
 try simp (disch := omega) only [Fact.wrap_i64, Fact.wrap_u8, Fact.wrap_u32, Fact.wrap_u64]
 refine hK.out _ _ ?_; clear hK K
 refine Fact.p rfl fun K hK => ?_
 go_simp
 refine hK.out _ _ ?_; clear hK K
 refine Fact.nil ?_
 refine Fact.q hf (by simp only [Fact.G]) rfl fun fr1 hf1 hT => ?_
 have hKp : _ ∧ _ ∧ _ ∧ _ ∧ _ ∧ _ ∧ _ ∧ _ ∧ _ ∧ _ := ⟨hT 0, hT 1, hT 2, hT 3, hT 8, hT 9, hT 10, hT 19, hT 20, hT 21⟩
 simp only [Fact.G, Nat.reduceEqDiff, Nat.reduceLT, hf.size, reduceIte, s0, s1, s2, s3, s8, s9] at hKp
 clear hT hf s0 s1 s2 s3 s8 s9 b19 b20 b21
 obtain ⟨s0, s1, s2, s3, s8, s9, s10, s19, s20, s21⟩ := hKp
 have hf := hf1; clear hf1
 refine Fact.nx (hK3 _ _ ?_)
 refine wp_seq_k (fun K4 hK4 => ?_)
 refine wp_seq_k (fun K5 hK5 => ?_)
 refine Fact.region ?_
 have b22 := hf.l 22 rfl
 refine Fact.p rfl fun K hK => ?_
 go_simp
 refine hK.out _ _ ?_; clear hK K
 refine Fact.p rfl fun K hK => ?_
 go_simp
 refine hK.out _ _ ?_; clear hK K
 refine Fact.nil ?_
 refine Fact.q hf (by simp only [Fact.G]) rfl fun fr1 hf1 hT => ?_
 have hKp : _ ∧ _ ∧ _ ∧ _ ∧ _ ∧ _ ∧ _ ∧ _ ∧ _ ∧ _ ∧ _ ∧ _ := ⟨hT 0, hT 1, hT 2, hT 3, hT 8, hT 9, hT 10, hT 19, hT 20, hT 21, hT 22, hT 23⟩
 simp only [Fact.G, Nat.reduceEqDiff, Nat.reduceLT, hf.size, reduceIte, s0, s1, s2, s3, s8, s9, s10, s19, s20, s21] at hKp
 clear hT hf s0 s1 s2 s3 s8 s9 s10 s19 s20 s21 b22
 obtain ⟨s0, s1, s2, s3, s8, s9, s10, s19, s20, s21, s22, s23⟩ := hKp
 have hf := hf1; clear hf1
 refine Fact.nx (hK5 _ _ ?_)
 refine Fact.cond_t s23 ?_
 refine wp_seq_k (fun K6 hK6 => ?_)
 refine Fact.region ?_
 have b24 := hf.l 24 rfl
 have b25 := hf.l 25 rfl
 have b26 := hf.l 26 rfl
 refine Fact.p rfl fun K hK => ?_
 go_simp
 refine hK.out _ _ ?_; clear hK K
 refine Fact.p rfl fun K hK => ?_
 go_simp
 refine hK.out _ _ ?_; clear hK K
 refine Fact.p rfl fun K hK => ?_
 go_simp
 refine hK.out _ _ ?_; clear hK K
 refine Fact.p rfl fun K hK => ?_
 go_simp
 go_at_call 79; refine (ins_any ys g n c a b wr HYL.out (by omega) hab (by omega) ha).mono ?_; rintro e w2 ⟨rfl, ys2, hsg2, hso2, ha2, ho2⟩
 dsimp only
 refine hK.out _ _ ?_; clear hK K
 refine Fact.nil ?_
 refine Fact.q hf (by simp only [Fact.G]) rfl fun fr1 hf1 hT => ?_
 have hKp : _ ∧ _ ∧ _ ∧ _ ∧ _ ∧ _ ∧ _ ∧ _ ∧ _ ∧ _ ∧ _ ∧ _ ∧ _ ∧ _ ∧ _ := ⟨hT 0, hT 1, hT 2, hT 3, hT 8, hT 9, hT 10, hT 19, hT 20, hT 21, hT 22, hT 23, hT 24, hT 25, hT 26⟩
 simp only [Fact.G, Nat.reduceEqDiff, Nat.reduceLT, hf.size, reduceIte, s0, s1, s2, s3, s8, s9, s10, s19, s20, s21, s22, s23] at hKp
 clear hT hf s0 s1 s2 s3 s8 s9 s10 s19 s20 s21 s22 s23 b24 b25 b26
 obtain ⟨s0, s1, s2, s3, s8, s9, s10, s19, s20, s21, s22, s23, s24, s25, s26⟩ := hKp
 have hf := hf1; clear hf1
 refine Fact.nx (hK6 _ _ ?_)
 refine wp_ret ?_
 refine Fact.then_ret ?_
 refine Fact.block_ret ?_
 refine Fact.then_ret ?_
 refine Fact.block_ret ?_
 exact Fact.ret0 rfl hf ⟨rfl, ys2, hsg.trans (hsg2.mono hA hbB), (hfit.seg hsg2).done hso2, ha2, ho.trans ho2⟩)
 · (
 have h12I : ¬ (l : Int) ≤ 12 := by omega
 have hab12 : a + 13 ≤ b := by have := HL.out; omega
 refine wp_block ?_
 refine wp_seq_k (fun K7 hK7 => ?_)
 refine Fact.region ?_
 have b19 := hf.l 19 rfl
 have b20 := hf.l 20 rfl
 have b21 := hf.l 21 rfl
 refine Fact.p rfl fun K hK => ?_
 go_simp
 refine hK.out _ _ ?_; clear hK K
 refine Fact.p rfl fun K hK => ?_
 go_simp
 refine hK.out _ _ ?_; clear hK K
 refine Fact.p rfl fun K hK => ?_
 go_simp
 try simp (disch := omega) only [Fact.wrap_i64, Fact.wrap_u8, Fact.wrap_u32, Fact.wrap_u64]
 refine hK.out _ _ ?_; clear hK K
 refine Fact.p rfl fun K hK => ?_
 go_simp
 refine hK.out _ _ ?_; clear hK K
 refine Fact.nil ?_
 refine Fact.q hf (by simp only [Fact.G]) rfl fun fr1 hf1 hT => ?_
 have hKp : _ ∧ _ ∧ _ ∧ _ ∧ _ ∧ _ ∧ _ ∧ _ ∧ _ ∧ _ := ⟨hT 0, hT 1, hT 2, hT 3, hT 8, hT 9, hT 10, hT 19, hT 20, hT 21⟩
 simp only [Fact.G, Nat.reduceEqDiff, Nat.reduceLT, hf.size, reduceIte, s0, s1, s2, s3, s8, s9] at hKp
 clear hT hf s0 s1 s2 s3 s8 s9 b19 b20 b21
 obtain ⟨s0, s1, s2, s3, s8, s9, s10, s19, s20, s21⟩ := hKp
 have hf := hf1; clear hf1
 refine Fact.nx (hK7 _ _ ?_)
 refine wp_seq_k (fun K8 hK8 => ?_)
 refine wp_seq_k (fun K9 hK9 => ?_)
 refine Fact.region ?_
 have b22 := hf.l 22 rfl
 refine Fact.p rfl fun K hK => ?_
 go_simp
 refine hK.out _ _ ?_; clear hK K
 refine Fact.p rfl fun K hK => ?_
 go_simp
 refine hK.out _ _ ?_; clear hK K
 refine Fact.nil ?_
 refine Fact.q hf (by simp only [Fact.G]) rfl fun fr1 hf1 hT => ?_
 have hKp : _ ∧ _ ∧ _ ∧ _ ∧ _ ∧ _ ∧ _ ∧ _ ∧ _ ∧ _ ∧ _ ∧ _ := ⟨hT 0, hT 1, hT 2, hT 3, hT 8, hT 9, hT 10, hT 19, hT 20, hT 21, hT 22, hT 23⟩
 simp only [Fact.G, Nat.reduceEqDiff, Nat.reduceLT, hf.size, reduceIte, s0, s1, s2, s3, s8, s9, s10, s19, s20, s21] at hKp
 clear hT hf s0 s1 s2 s3 s8 s9 s10 s19 s20 s21 b22
 obtain ⟨s0, s1, s2, s3, s8, s9, s10, s19, s20, s21, s22, s23⟩ := hKp
 have hf := hf1; clear hf1
 refine Fact.nx (hK9 _ _ ?_)
 refine Fact.cond_f s23 ?_
 rcases Nat.eq_zero_or_pos lim with hl0 | hl0
 · (
 subst hl0
 refine wp_skip ?_
 refine Fact.nx (hK8 _ _ ?_)
 refine wp_seq_k (fun K10 hK10 => ?_)
 refine wp_seq_k (fun K11 hK11 => ?_)
 refine Fact.region ?_
 have b28 := hf.l 28 rfl
 refine Fact.p rfl fun K hK => ?_
 go_simp
 refine hK.out _ _ ?_; clear hK K
 refine Fact.p rfl fun K hK => ?_
 go_simp
 refine hK.out _ _ ?_; clear hK K
 refine Fact.nil ?_
 refine Fact.q hf (by simp only [Fact.G]) rfl fun fr1 hf1 hT => ?_
 have hKp : _ ∧ _ ∧ _ ∧ _ ∧ _ ∧ _ ∧ _ ∧ _ ∧ _ ∧ _ ∧ _ ∧ _ ∧ _ ∧ _ := ⟨hT 0, hT 1, hT 2, hT 3, hT 8, hT 9, hT 10, hT 19, hT 20, hT 21, hT 22, hT 23, hT 28, hT 29⟩
 simp only [Fact.G, Nat.reduceEqDiff, Nat.reduceLT, hf.size, reduceIte, s0, s1, s2, s3, s8, s9, s10, s19, s20, s21, s22, s23] at hKp
 clear hT hf s0 s1 s2 s3 s8 s9 s10 s19 s20 s21 s22 s23 b28
 obtain ⟨s0, s1, s2, s3, s8, s9, s10, s19, s20, s21, s22, s23, s28, s29⟩ := hKp
 have hf := hf1; clear hf1
 refine Fact.nx (hK11 _ _ ?_)
 refine Fact.cond_t s29 ?_
 refine wp_seq_k (fun K12 hK12 => ?_)
 refine Fact.region ?_
 have b30 := hf.l 30 rfl
 have b31 := hf.l 31 rfl
 have b32 := hf.l 32 rfl
 refine Fact.p rfl fun K hK => ?_
 go_simp
 refine hK.out _ _ ?_; clear hK K
 refine Fact.p rfl fun K hK => ?_
 go_simp
 refine hK.out _ _ ?_; clear hK K
 refine Fact.p rfl fun K hK => ?_
 go_simp
 refine hK.out _ _ ?_; clear hK K
 refine Fact.p rfl fun K hK => ?_
 go_simp
 go_at_call 80; refine (heap_any ys g n c a b wr HYL.out hnl hab (by omega) ha).mono ?_; rintro e w2 ⟨rfl, ys2, hsg2, hso2, ha2, ho2⟩
 dsimp only
 refine hK.out _ _ ?_; clear hK K
 refine Fact.nil ?_
 refine Fact.q hf (by simp only [Fact.G]) rfl fun fr1 hf1 hT => ?_
 have hKp : _ ∧ _ ∧ _ ∧ _ ∧ _ ∧ _ ∧ _ ∧ _ ∧ _ ∧ _ ∧ _ ∧ _ ∧ _ ∧ _ ∧ _ ∧ _ ∧ _ := ⟨hT 0, hT 1, hT 2, hT 3, hT 8, hT 9, hT 10, hT 19, hT 20, hT 21, hT 22, hT 23, hT 28, hT 29, hT 30, hT 31, hT 32⟩
 simp only [Fact.G, Nat.reduceEqDiff, Nat.reduceLT, hf.size, reduceIte, s0, s1, s2, s3, s8, s9, s10, s19, s20, s21, s22, s23, s28, s29] at hKp
 clear hT hf s0 s1 s2 s3 s8 s9 s10 s19 s20 s21 s22 s23 s28 s29 b30 b31 b32
 obtain ⟨s0, s1, s2, s3, s8, s9, s10, s19, s20, s21, s22, s23, s28, s29, s30, s31, s32⟩ := hKp
 have hf := hf1; clear hf1
 refine Fact.nx (hK12 _ _ ?_)
 refine wp_ret ?_
 refine Fact.then_ret ?_
 refine Fact.block_ret ?_
 refine Fact.then_ret ?_
 refine Fact.block_ret ?_
 exact Fact.ret0 rfl hf ⟨rfl, ys2, hsg.trans (hsg2.mono hA hbB), (hfit.seg hsg2).done hso2, ha2, ho.trans ho2⟩)
 · (
 obtain ⟨lm, rfl⟩ : ∃ m, lim = m + 1 := ⟨lim - 1, by omega⟩
 have hl0I : (((lm : Int) + 1) == 0) = false := by simpa using (by omega : (lm : Int) + 1 ≠ 0)
 refine wp_skip ?_
 refine Fact.nx (hK8 _ _ ?_)
 refine wp_seq_k (fun K13 hK13 => ?_)
 refine wp_seq_k (fun K14 hK14 => ?_)
 refine Fact.region ?_
 have b28 := hf.l 28 rfl
 refine Fact.p rfl fun K hK => ?_
 go_simp
 refine hK.out _ _ ?_; clear hK K
 refine Fact.p rfl fun K hK => ?_
 go_simp
 refine hK.out _ _ ?_; clear hK K
 refine Fact.nil ?_
 refine Fact.q hf (by simp only [Fact.G]) rfl fun fr1 hf1 hT => ?_
 have hKp : _ ∧ _ ∧ _ ∧ _ ∧ _ ∧ _ ∧ _ ∧ _ ∧ _ ∧ _ ∧ _ ∧ _ ∧ _ ∧ _ := ⟨hT 0, hT 1, hT 2, hT 3, hT 8, hT 9, hT 10, hT 19, hT 20, hT 21, hT 22, hT 23, hT 28, hT 29⟩
 simp only [Fact.G, Nat.reduceEqDiff, Nat.reduceLT, hf.size, reduceIte, s0, s1, s2, s3, s8, s9, s10, s19, s20, s21, s22, s23] at hKp
 clear hT hf s0 s1 s2 s3 s8 s9 s10 s19 s20 s21 s22 s23 b28
 obtain ⟨s0, s1, s2, s3, s8, s9, s10, s19, s20, s21, s22, s23, s28, s29⟩ := hKp
 have hf := hf1; clear hf1
 refine Fact.nx (hK14 _ _ ?_)
 refine Fact.cond_f s29 ?_
 refine wp_skip ?_
 refine Fact.nx (hK13 _ _ ?_)
 refine Fact.seq_meet (fun fr w3 => ∃ (lim : Nat) (ys : List Int), lim ≤ 1000 ∧ Fit A B a b ys ∧ Fact.Fr 134 fr ∧ fr.tmps[0]? = some (.slice (some ⟨g, 0, none⟩) n c) ∧ fr.tmps[1]? = some (.int .i64 a) ∧ fr.tmps[2]? = some (.int .i64 b) ∧ fr.tmps[3]? = some (.int .i64 lim) ∧ fr.tmps[8]? = some (.bool q1) ∧ fr.tmps[9]? = some (.bool q2) ∧ fr.tmps[10]? = some (.int .i64 l) ∧ Segm A B zs ys ∧ Arr w3 g ys ∧ Only w w3 g) ?_ ?_
 · (
 have e2 : IntKind.i64.wrap ((lm : Int) + 1 - 1) = (lm : Int) := by rw [Fact.wrap_i64 (by omega) (by omega)]; omega
 rcases q1 with _ | _
 · (
 refine wp_seq_k (fun K15 hK15 => ?_)
 refine Fact.region ?_
 have b34 := hf.l 34 rfl
 refine Fact.p rfl fun K hK => ?_
 go_simp
 refine hK.out _ _ ?_; clear hK K
 refine Fact.p rfl fun K hK => ?_
 go_simp
 refine hK.out _ _ ?_; clear hK K
 refine Fact.nil ?_
 refine Fact.q hf (by simp only [Fact.G]) rfl fun fr1 hf1 hT => ?_
 have hKp : _ ∧ _ ∧ _ ∧ _ ∧ _ ∧ _ ∧ _ ∧ _ ∧ _ ∧ _ ∧ _ ∧ _ ∧ _ ∧ _ ∧ _ ∧ _ := ⟨hT 0, hT 1, hT 2, hT 3, hT 8, hT 9, hT 10, hT 19, hT 20, hT 21, hT 22, hT 23, hT 28, hT 29, hT 34, hT 35⟩
 simp only [Fact.G, Nat.reduceEqDiff, Nat.reduceLT, hf.size, reduceIte, s0, s1, s2, s3, s8, s9, s10, s19, s20, s21, s22, s23, s28, s29] at hKp
 clear hT hf s0 s1 s2 s3 s8 s9 s10 s19 s20 s21 s22 s23 s28 s29 b34
 obtain ⟨s0, s1, s2, s3, s8, s9, s10, s19, s20, s21, s22, s23, s28, s29, s34, s35⟩ := hKp
 have hf := hf1; clear hf1
 refine Fact.nx (hK15 _ _ ?_)
 refine Fact.cond_t s35 ?_
 refine wp_seq_k (fun K16 hK16 => ?_)
 refine Fact.region ?_
 have b36 := hf.l 36 rfl
 have b37 := hf.l 37 rfl
 have b38 := hf.l 38 rfl
 refine Fact.p rfl fun K hK => ?_
 go_simp
 refine hK.out _ _ ?_; clear hK K
 refine Fact.p rfl fun K hK => ?_
 go_simp
 refine hK.out _ _ ?_; clear hK K
 refine Fact.p rfl fun K hK => ?_
 go_simp
 refine hK.out _ _ ?_; clear hK K
 refine Fact.p rfl fun K hK => ?_
 go_simp
 go_at_call 81; refine (brk_any ys g n c a b wr HYL.out hnl (by omega) (by omega) ha).mono ?_; rintro e w2 ⟨rfl, ys2, hsg2, ha2, ho2⟩
 dsimp only
 refine hK.out _ _ ?_; clear hK K
 refine Fact.nil ?_
 refine Fact.q hf (by simp only [Fact.G]) rfl fun fr1 hf1 hT => ?_
 have hKp : _ ∧ _ ∧ _ ∧ _ ∧ _ ∧ _ ∧ _ ∧ _ ∧ _ ∧ _ ∧ _ ∧ _ ∧ _ ∧ _ ∧ _ ∧ _ ∧ _ ∧ _ ∧ _ := ⟨hT 0, hT 1, hT 2, hT 3, hT 8, hT 9, hT 10, hT 19, hT 20, hT 21, hT 22, hT 23, hT 28, hT 29, hT 34, hT 35, hT 36, hT 37, hT 38⟩
 simp only [Fact.G, Nat.reduceEqDiff, Nat.reduceLT, hf.size, reduceIte, s0, s1, s2, s3, s8, s9, s10, s19, s20, s21, s22, s23, s28, s29, s34, s35] at hKp
 clear hT hf s0 s1 s2 s3 s8 s9 s10 s19 s20 s21 s22 s23 s28 s29 s34 s35 b36 b37 b38
 obtain ⟨s0, s1, s2, s3, s8, s9, s10, s19, s20, s21, s22, s23, s28, s29, s34, s35, s36, s37, s38⟩ := hKp
 have hf := hf1; clear hf1
 refine Fact.nx (hK16 _ _ ?_)
 refine Fact.region ?_
 have b40 := hf.l 40 rfl
 have b41 := hf.l 41 rfl
 refine Fact.p rfl fun K hK => ?_
 go_simp
 refine hK.out _ _ ?_; clear hK K
 refine Fact.p rfl fun K hK => ?_
 go_simp
 try simp (disch := omega) only [Fact.wrap_i64, Fact.wrap_u8, Fact.wrap_u32, Fact.wrap_u64]
 refine hK.out _ _ ?_; clear hK K
 refine Fact.p rfl fun K hK => ?_
 go_simp
 refine hK.out _ _ ?_; clear hK K
 refine Fact.nil ?_
 refine Fact.q hf (by simp only [Fact.G]) rfl fun fr1 hf1 hT => ?_
 have hKp : _ ∧ _ ∧ _ ∧ _ ∧ _ ∧ _ ∧ _ ∧ _ ∧ _ ∧ _ ∧ _ ∧ _ ∧ _ ∧ _ ∧ _ ∧ _ ∧ _ ∧ _ ∧ _ ∧ _ ∧ _ := ⟨hT 0, hT 1, hT 2, hT 3, hT 8, hT 9, hT 10, hT 19, hT 20, hT 21, hT 22, hT 23, hT 28, hT 29, hT 34, hT 35, hT 36, hT 37, hT 38, hT 40, hT 41⟩
 simp only [Fact.G, Nat.reduceEqDiff, Nat.reduceLT, hf.size, reduceIte, s0, s1, s2, s8, s9, s10, s19, s20, s21, s22, s23, s28, s29, s34, s35, s36, s37, s38] at hKp
 clear hT hf s0 s1 s2 s3 s8 s9 s10 s19 s20 s21 s22 s23 s28 s29 s34 s35 s36 s37 s38 b40 b41
 obtain ⟨s0, s1, s2, s3, s8, s9, s10, s19, s20, s21, s22, s23, s28, s29, s34, s35, s36, s37, s38, s40, s41⟩ := hKp
 have hf := hf1; clear hf1
 refine Fact.then_normal ?_
 exact ⟨lm, ys2, by omega, hfit.seg hsg2, hf, s0, s1, s2, s3, s8, s9, s10, hsg.trans (hsg2.mono hA hbB), ha2, ho.trans ho2⟩)
 · (
 refine wp_seq_k (fun K17 hK17 => ?_)
 refine Fact.region ?_
 have b34 := hf.l 34 rfl
 refine Fact.p rfl fun K hK => ?_
 go_simp
 refine hK.out _ _ ?_; clear hK K
 refine Fact.p rfl fun K hK => ?_
 go_simp
 refine hK.out _ _ ?_; clear hK K
 refine Fact.nil ?_
 refine Fact.q hf (by simp only [Fact.G]) rfl fun fr1 hf1 hT => ?_
 have hKp : _ ∧ _ ∧ _ ∧ _ ∧ _ ∧ _ ∧ _ ∧ _ ∧ _ ∧ _ ∧ _ ∧ _ ∧ _ ∧ _ ∧ _ ∧ _ := ⟨hT 0, hT 1, hT 2, hT 3, hT 8, hT 9, hT 10, hT 19, hT 20, hT 21, hT 22, hT 23, hT 28, hT 29, hT 34, hT 35⟩
 simp only [Fact.G, Nat.reduceEqDiff, Nat.reduceLT, hf.size, reduceIte, s0, s1, s2, s3, s8, s9, s10, s19, s20, s21, s22, s23, s28, s29] at hKp
 clear hT hf s0 s1 s2 s3 s8 s9 s10 s19 s20 s21 s22 s23 s28 s29 b34
 obtain ⟨s0, s1, s2, s3, s8, s9, s10, s19, s20, s21, s22, s23, s28, s29, s34, s35⟩ := hKp
 have hf := hf1; clear hf1
 refine Fact.nx (hK17 _ _ ?_)
 refine Fact.cond_f s35 ?_
 refine wp_skip ?_
 refine Fact.then_normal ?_
 exact ⟨lm + 1, ys, hlim, hfit, hf, s0, s1, s2, s3, s8, s9, s10, hsg, ha, ho⟩))
 · (
 clear hf s0 s1 s2 s3 s8 s9 s10 s19 s20 s21 s22 s23 s28 s29
 clear hl0I hlim hfit hsg ha ho HYL hl0
 rintro fr w3 ⟨lim, ys, hlim, hfit, hf, s0, s1, s2, s3, s8, s9, s10, hsg, ha, ho⟩
 have HYL := Lib.hid (show ys.length = n by rw [hsg.len]; exact HN.out)
 refine wp_seq_k (fun K18 hK18 => ?_)
 refine Fact.region ?_
 have b43 := hf.l 43 rfl
 have b44 := hf.l 44 rfl
 have b45 := hf.l 45 rfl
 have b46 := hf.l 46 rfl
 have b42 := hf.l 42 rfl
 have b47 := hf.l 47 rfl
 have b48 := hf.l 48 rfl
 refine Fact.p rfl fun K hK => ?_
 go_simp
 refine hK.out _ _ ?_; clear hK K
 refine Fact.p rfl fun K hK => ?_
 go_simp
 refine hK.out _ _ ?_; clear hK K
 refine Fact.p rfl fun K hK => ?_
 go_simp
 refine hK.out _ _ ?_; clear hK K
 refine Fact.p rfl fun K hK => ?_
 go_simp
 go_at_call 82; refine (piv_any ys g n c a b w3 HYL.out hnl (by omega) (by omega) ha).mono ?_; rintro e w4 ⟨p, hint, rfl, hap, hpb, hb4⟩
 have ha4 := ha.below hb4
 have ho4 := ho.trans (Only.of_below hb4 g)
 clear ha ho hb4
 dsimp only
 refine hK.out _ _ ?_; clear hK K
 refine Fact.p rfl fun K hK => ?_
 go_simp
 refine hK.out _ _ ?_; clear hK K
 refine Fact.p rfl fun K hK => ?_
 go_simp
 refine hK.out _ _ ?_; clear hK K
 refine Fact.p rfl fun K hK => ?_
 go_simp
 refine hK.out _ _ ?_; clear hK K
 refine Fact.p rfl fun K hK => ?_
 go_simp
 refine hK.out _ _ ?_; clear hK K
 refine Fact.p rfl fun K hK => ?_
 go_simp
 refine hK.out _ _ ?_; clear hK K
 refine Fact.nil ?_
 refine Fact.q hf (by simp only [Fact.G]) rfl fun fr1 hf1 hT => ?_
 have hKp : _ ∧ _ ∧ _ ∧ _ ∧ _ ∧ _ ∧ _ ∧ _ ∧ _ ∧ _ ∧ _ ∧ _ ∧ _ ∧ _ ∧ _ ∧ _ := ⟨hT 0, hT 1, hT 2, hT 3, hT 8, hT 9, hT 10, hT 11, hT 12, hT 42, hT 43, hT 44, hT 45, hT 46, hT 47, hT 48⟩
 simp only [Fact.G, Nat.reduceEqDiff, Nat.reduceLT, hf.size, reduceIte, s0, s1, s2, s3, s8, s9, s10] at hKp
 clear hT hf s0 s1 s2 s3 s8 s9 s10 b43 b44 b45 b46 b42 b47 b48
 obtain ⟨s0, s1, s2, s3, s8, s9, s10, s11, s12, s42, s43, s44, s45, s46, s47, s48⟩ := hKp
 have hf := hf1; clear hf1
 refine Fact.nx (hK18 _ _ ?_)
 refine Fact.seq_meet (fun fr w5 => ∃ (p : Nat) (hint : Int) (ys : List Int), a ≤ p ∧ p < b ∧ Fit A B a b ys ∧ Fact.Fr 134 fr ∧ fr.tmps[0]? = some (.slice (some ⟨g, 0, none⟩) n c) ∧ fr.tmps[1]? = some (.int .i64 a) ∧ fr.tmps[2]? = some (.int .i64 b) ∧ fr.tmps[3]? = some (.int .i64 lim) ∧ fr.tmps[8]? = some (.bool q1) ∧ fr.tmps[9]? = some (.bool q2) ∧ fr.tmps[10]? = some (.int .i64 l) ∧ fr.tmps[11]? = some (.int .i64 p) ∧ fr.tmps[12]? = some (.int .i64 hint) ∧ Segm A B zs ys ∧ Arr w5 g ys ∧ Only w w5 g) ?_ ?_
 · (
 by_cases hh : hint = 2
 · (
 subst hh
 have e2 : IntKind.i64.wrap ((b : Int) - 1) = (b : Int) - 1 := Fact.wrap_i64 (by omega) (by omega)
 have e3 : IntKind.i64.wrap ((p : Int) - (a : Int)) = (p : Int) - (a : Int) := Fact.wrap_i64 (by omega) (by omega)
 have e4 : IntKind.i64.wrap ((b : Int) - 1 - ((p : Int) - (a : Int))) = ((b - 1 - (p - a) : Nat) : Int) := by rw [Fact.wrap_i64 (by omega) (by omega)]; omega
 refine wp_seq_k (fun K19 hK19 => ?_)
 refine Fact.region ?_
 have b49 := hf.l 49 rfl
 refine Fact.p rfl fun K hK => ?_
 go_simp
 refine hK.out _ _ ?_; clear hK K
 refine Fact.p rfl fun K hK => ?_
 go_simp
 refine hK.out _ _ ?_; clear hK K
 refine Fact.nil ?_
 refine Fact.q hf (by simp only [Fact.G]) rfl fun fr1 hf1 hT => ?_
 have hKp : _ ∧ _ ∧ _ ∧ _ ∧ _ ∧ _ ∧ _ ∧ _ ∧ _ ∧ _ ∧ _ ∧ _ ∧ _ ∧ _ ∧ _ ∧ _ ∧ _ ∧ _ := ⟨hT 0, hT 1, hT 2, hT 3, hT 8, hT 9, hT 10, hT 11, hT 12, hT 42, hT 43, hT 44, hT 45, hT 46, hT 47, hT 48, hT 49, hT 50⟩
 simp only [Fact.G, Nat.reduceEqDiff, Nat.reduceLT, hf.size, reduceIte, s0, s1, s2, s3, s8, s9, s10, s11, s12, s42, s43, s44, s45, s46, s47, s48] at hKp
 clear hT hf s0 s1 s2 s3 s8 s9 s10 s11 s12 s42 s43 s44 s45 s46 s47 s48 b49
 obtain ⟨s0, s1, s2, s3, s8, s9, s10, s11, s12, s42, s43, s44, s45, s46, s47, s48, s49, s50⟩ := hKp
 have hf := hf1; clear hf1
 refine Fact.nx (hK19 _ _ ?_)
 refine Fact.cond_t s50 ?_
 refine wp_seq_k (fun K20 hK20 => ?_)
 refine Fact.region ?_
 have b51 := hf.l 51 rfl
 have b52 := hf.l 52 rfl
 have b53 := hf.l 53 rfl
 refine Fact.p rfl fun K hK => ?_
 go_simp
 refine hK.out _ _ ?_; clear hK K
 refine Fact.p rfl fun K hK => ?_
 go_simp
 refine hK.out _ _ ?_; clear hK K
 refine Fact.p rfl fun K hK => ?_
 go_simp
 refine hK.out _ _ ?_; clear hK K
 refine Fact.p rfl fun K hK => ?_
 go_simp
 go_at_call 83; refine (rev_any ys g n c a b w4 HYL.out hnl hab (by omega) ha4).mono ?_; rintro e w2 ⟨rfl, ys2, hsg2, ha2, ho2⟩
 dsimp only
 refine hK.out _ _ ?_; clear hK K
 refine Fact.nil ?_
 refine Fact.q hf (by simp only [Fact.G]) rfl fun fr1 hf1 hT => ?_
 have hKp : _ ∧ _ ∧ _ ∧ _ ∧ _ ∧ _ ∧ _ ∧ _ ∧ _ ∧ _ ∧ _ ∧ _ ∧ _ ∧ _ ∧ _ ∧ _ ∧ _ ∧ _ ∧ _ ∧ _ ∧ _ := ⟨hT 0, hT 1, hT 2, hT 3, hT 8, hT 9, hT 10, hT 11, hT 12, hT 42, hT 43, hT 44, hT 45, hT 46, hT 47, hT 48, hT 49, hT 50, hT 51, hT 52, hT 53⟩
 simp only [Fact.G, Nat.reduceEqDiff, Nat.reduceLT, hf.size, reduceIte, s0, s1, s2, s3, s8, s9, s10, s11, s12, s42, s43, s44, s45, s46, s47, s48, s49, s50] at hKp
 clear hT hf s0 s1 s2 s3 s8 s9 s10 s11 s12 s42 s43 s44 s45 s46 s47 s48 s49 s50 b51 b52 b53
 obtain ⟨s0, s1, s2, s3, s8, s9, s10, s11, s12, s42, s43, s44, s45, s46, s47, s48, s49, s50, s51, s52, s53⟩ := hKp
 have hf := hf1; clear hf1
 refine Fact.nx (hK20 _ _ ?_)
 refine wp_seq_k (fun K21 hK21 => ?_)
 refine Fact.region ?_
 have b55 := hf.l 55 rfl
 have b56 := hf.l 56 rfl
 have b57 := hf.l 57 rfl
 have b58 := hf.l 58 rfl
 have b59 := hf.l 59 rfl
 have b60 := hf.l 60 rfl
 refine Fact.p rfl fun K hK => ?_
 go_simp
 refine hK.out _ _ ?_; clear hK K
 refine Fact.p rfl fun K hK => ?_
 go_simp
 try simp (disch := omega) only [Fact.wrap_i64, Fact.wrap_u8, Fact.wrap_u32, Fact.wrap_u64]
 refine hK.out _ _ ?_; clear hK K
 refine Fact.p rfl fun K hK => ?_
 go_simp
 refine hK.out _ _ ?_; clear hK K
 refine Fact.p rfl fun K hK => ?_
 go_simp
 refine hK.out _ _ ?_; clear hK K
 refine Fact.p rfl fun K hK => ?_
 go_simp
 try simp (disch := omega) only [Fact.wrap_i64, Fact.wrap_u8, Fact.wrap_u32, Fact.wrap_u64]
 refine hK.out _ _ ?_; clear hK K
 refine Fact.p rfl fun K hK => ?_
 go_simp
 try simp (disch := omega) only [Fact.wrap_i64, Fact.wrap_u8, Fact.wrap_u32, Fact.wrap_u64]
 refine hK.out _ _ ?_; clear hK K
 refine Fact.p rfl fun K hK => ?_
 go_simp
 refine hK.out _ _ ?_; clear hK K
 refine Fact.nil ?_
 refine Fact.q hf (by simp only [Fact.G]) rfl fun fr1 hf1 hT => ?_
 have hKp : _ ∧ _ ∧ _ ∧ _ ∧ _ ∧ _ ∧ _ ∧ _ ∧ _ ∧ _ ∧ _ ∧ _ ∧ _ ∧ _ ∧ _ ∧ _ ∧ _ ∧ _ ∧ _ ∧ _ ∧ _ ∧ _ ∧ _ ∧ _ ∧ _ ∧ _ ∧ _ := ⟨hT 0, hT 1, hT 2, hT 3, hT 8, hT 9, hT 10, hT 11, hT 12, hT 42, hT 43, hT 44, hT 45, hT 46, hT 47, hT 48, hT 49, hT 50, hT 51, hT 52, hT 53, hT 55, hT 56, hT 57, hT 58, hT 59, hT 60⟩
 simp only [Fact.G, Nat.reduceEqDiff, Nat.reduceLT, hf.size, reduceIte, s0, s1, s2, s3, s8, s9, s10, s12, s42, s43, s44, s45, s46, s47, s48, s49, s50, s51, s52, s53] at hKp
 clear hT hf s0 s1 s2 s3 s8 s9 s10 s11 s12 s42 s43 s44 s45 s46 s47 s48 s49 s50 s51 s52 s53 b55 b56 b57 b58 b59 b60
 obtain ⟨s0, s1, s2, s3, s8, s9, s10, s11, s12, s42, s43, s44, s45, s46, s47, s48, s49, s50, s51, s52, s53, s55, s56, s57, s58, s59, s60⟩ := hKp
 have hf := hf1; clear hf1
 refine Fact.nx (hK21 _ _ ?_)
 refine Fact.region ?_
 refine Fact.p rfl fun K hK => ?_
 go_simp
 refine hK.out _ _ ?_; clear hK K
 refine Fact.nil ?_
 refine Fact.q hf (by simp only [Fact.G]) rfl fun fr1 hf1 hT => ?_
 have hKp : _ ∧ _ ∧ _ ∧ _ ∧ _ ∧ _ ∧ _ ∧ _ ∧ _ ∧ _ ∧ _ ∧ _ ∧ _ ∧ _ ∧ _ ∧ _ ∧ _ ∧ _ ∧ _ ∧ _ ∧ _ ∧ _ ∧ _ ∧ _ ∧ _ ∧ _ ∧ _ := ⟨hT 0, hT 1, hT 2, hT 3, hT 8, hT 9, hT 10, hT 11, hT 12, hT 42, hT 43, hT 44, hT 45, hT 46, hT 47, hT 48, hT 49, hT 50, hT 51, hT 52, hT 53, hT 55, hT 56, hT 57, hT 58, hT 59, hT 60⟩
 simp only [Fact.G, Nat.reduceEqDiff, Nat.reduceLT, hf.size, reduceIte, s0, s1, s2, s3, s8, s9, s10, s11, s42, s43, s44, s45, s46, s47, s48, s49, s50, s51, s52, s53, s55, s56, s57, s58, s59, s60] at hKp
 clear hT hf s0 s1 s2 s3 s8 s9 s10 s11 s12 s42 s43 s44 s45 s46 s47 s48 s49 s50 s51 s52 s53 s55 s56 s57 s58 s59 s60
 obtain ⟨s0, s1, s2, s3, s8, s9, s10, s11, s12, s42, s43, s44, s45, s46, s47, s48, s49, s50, s51, s52, s53, s55, s56, s57, s58, s59, s60⟩ := hKp
 have hf := hf1; clear hf1
 refine Fact.then_normal ?_
 exact ⟨b - 1 - (p - a), 1, ys2, by omega, by omega, hfit.seg hsg2, hf, s0, s1, s2, s3, s8, s9, s10, s11, s12, hsg.trans (hsg2.mono hA hbB), ha2, ho4.trans ho2⟩)
 · (
 have hhI : (hint == 2) = false := by simpa using hh
 refine wp_seq_k (fun K22 hK22 => ?_)
 refine Fact.region ?_
 have b49 := hf.l 49 rfl
 refine Fact.p rfl fun K hK => ?_
 go_simp
 refine hK.out _ _ ?_; clear hK K
 refine Fact.p rfl fun K hK => ?_
 go_simp
 refine hK.out _ _ ?_; clear hK K
 refine Fact.nil ?_
 refine Fact.q hf (by simp only [Fact.G]) rfl fun fr1 hf1 hT => ?_
 have hKp : _ ∧ _ ∧ _ ∧ _ ∧ _ ∧ _ ∧ _ ∧ _ ∧ _ ∧ _ ∧ _ ∧ _ ∧ _ ∧ _ ∧ _ ∧ _ ∧ _ ∧ _ := ⟨hT 0, hT 1, hT 2, hT 3, hT 8, hT 9, hT 10, hT 11, hT 12, hT 42, hT 43, hT 44, hT 45, hT 46, hT 47, hT 48, hT 49, hT 50⟩
 simp only [Fact.G, Nat.reduceEqDiff, Nat.reduceLT, hf.size, reduceIte, s0, s1, s2, s3, s8, s9, s10, s11, s12, s42, s43, s44, s45, s46, s47, s48] at hKp
 clear hT hf s0 s1 s2 s3 s8 s9 s10 s11 s12 s42 s43 s44 s45 s46 s47 s48 b49
 obtain ⟨s0, s1, s2, s3, s8, s9, s10, s11, s12, s42, s43, s44, s45, s46, s47, s48, s49, s50⟩ := hKp
 have hf := hf1; clear hf1
 refine Fact.nx (hK22 _ _ ?_)
 refine Fact.cond_f s50 ?_
 refine wp_skip ?_
 refine Fact.then_normal ?_
 exact ⟨p, hint, ys, hap, hpb, hfit, hf, s0, s1, s2, s3, s8, s9, s10, s11, s12, hsg, ha4, ho4⟩))
 · (
 clear hf s0 s1 s2 s3 s8 s9 s10 s11 s12 s42 s43 s44 s45 s46 s47 s48
 clear hfit hsg ha4 ho4 HYL hap hpb
 rintro fr w5 ⟨p, hint, ys, hap, hpb, hfit, hf, s0, s1, s2, s3, s8, s9, s10, s11, s12, hsg, ha, ho⟩
 have HYL := Lib.hid (show ys.length = n by rw [hsg.len]; exact HN.out)
 refine Fact.seq_meet (fun fr w6 => ∃ ys : List Int, Fit A B a b ys ∧ Fact.Fr 134 fr ∧ fr.tmps[0]? = some (.slice (some ⟨g, 0, none⟩) n c) ∧ fr.tmps[1]? = some (.int .i64 a) ∧ fr.tmps[2]? = some (.int .i64 b) ∧ fr.tmps[3]? = some (.int .i64 lim) ∧ fr.tmps[8]? = some (.bool q1) ∧ fr.tmps[9]? = some (.bool q2) ∧ fr.tmps[10]? = some (.int .i64 l) ∧ fr.tmps[11]? = some (.int .i64 p) ∧ Segm A B zs ys ∧ Arr w6 g ys ∧ Only w w6 g) ?_ ?_
 · (
 rcases q1 with _ | _
 · (
 refine wp_seq_k (fun K23 hK23 => ?_)
 refine Fact.region ?_
 have b61 := hf.l 61 rfl
 have b62 := hf.l 62 rfl
 have b63 := hf.l 63 rfl
 have b64 := hf.l 64 rfl
 have b65 := hf.l 65 rfl
 have b66 := hf.l 66 rfl
 have b67 := hf.l 67 rfl
 refine Fact.p rfl fun K hK => ?_
 go_simp
 refine hK.out _ _ ?_; clear hK K
 refine Fact.p rfl fun K hK => ?_
 go_simp
 refine hK.out _ _ ?_; clear hK K
 refine Fact.op_skip (g := 1) (d := 62) (b := true) rfl rfl rfl ?_ ?_
 · (
 simp only [Fact.G, Nat.reduceEqDiff, Nat.reduceLT, reduceIte, hf.size, Bool.not_true, Bool.not_false])
 refine Fact.p rfl fun K hK => ?_
 go_simp
 refine hK.out _ _ ?_; clear hK K
 refine Fact.p rfl fun K hK => ?_
 go_simp
 refine hK.out _ _ ?_; clear hK K
 refine Fact.op_skip (g := 4) (d := 65) (b := true) rfl rfl rfl ?_ ?_
 · (
 simp only [Fact.G, Nat.reduceEqDiff, Nat.reduceLT, reduceIte, hf.size, Bool.not_true, Bool.not_false])
 refine Fact.op_skip (g := 4) (d := 65) (b := true) rfl rfl rfl ?_ ?_
 · (
 simp only [Fact.G, Nat.reduceEqDiff, Nat.reduceLT, reduceIte, hf.size, Bool.not_true, Bool.not_false])
 refine Fact.p rfl fun K hK => ?_
 go_simp
 refine hK.out _ _ ?_; clear hK K
 refine Fact.nil ?_
 refine Fact.q hf (by simp only [Fact.G]) rfl fun fr1 hf1 hT => ?_
 have hKp : _ ∧ _ ∧ _ ∧ _ ∧ _ ∧ _ ∧ _ ∧ _ ∧ _ ∧ _ ∧ _ ∧ _ ∧ _ ∧ _ ∧ _ ∧ _ ∧ _ := ⟨hT 0, hT 1, hT 2, hT 3, hT 8, hT 9, hT 10, hT 11, hT 12, hT 61, hT 62, hT 63, hT 64, hT 65, hT 66, hT 67, hT 68⟩
 simp only [Fact.G, Nat.reduceEqDiff, Nat.reduceLT, hf.size, reduceIte, s0, s1, s2, s3, s8, s9, s10, s11, s12] at hKp
 clear hT hf s0 s1 s2 s3 s8 s9 s10 s11 s12 b61 b62 b63 b64 b65 b66 b67
 obtain ⟨s0, s1, s2, s3, s8, s9, s10, s11, s12, s61, s62, s63, s64, s65, s66, s67, s68⟩ := hKp
 have hf := hf1; clear hf1
 refine Fact.nx (hK23 _ _ ?_)
 refine Fact.cond_f s68 ?_
 refine wp_skip ?_
 refine Fact.then_normal ?_
 exact ⟨ys, hfit, hf, s0, s1, s2, s3, s8, s9, s10, s11, hsg, ha, ho⟩)
 · (
 rcases q2 with _ | _
 · (
 refine wp_seq_k (fun K24 hK24 => ?_)
 refine Fact.region ?_
 have b61 := hf.l 61 rfl
 have b62 := hf.l 62 rfl
 have b63 := hf.l 63 rfl
 have b64 := hf.l 64 rfl
 have b65 := hf.l 65 rfl
 have b66 := hf.l 66 rfl
 have b67 := hf.l 67 rfl
 refine Fact.p rfl fun K hK => ?_
 go_simp
 refine hK.out _ _ ?_; clear hK K
 refine Fact.p rfl fun K hK => ?_
 go_simp
 refine hK.out _ _ ?_; clear hK K
 refine Fact.op_guard (g := 1) (d := 62) (b := true) rfl rfl rfl ?_ (fun K hK => ?_)
 · (
 simp only [Fact.G, Nat.reduceEqDiff, Nat.reduceLT, reduceIte, hf.size])
 go_simp
 refine hK.out _ _ ?_; clear hK K
 refine Fact.p rfl fun K hK => ?_
 go_simp
 refine hK.out _ _ ?_; clear hK K
 refine Fact.p rfl fun K hK => ?_
 go_simp
 refine hK.out _ _ ?_; clear hK K
 refine Fact.op_skip (g := 4) (d := 65) (b := true) rfl rfl rfl ?_ ?_
 · (
 simp only [Fact.G, Nat.reduceEqDiff, Nat.reduceLT, reduceIte, hf.size, Bool.not_true, Bool.not_false])
 refine Fact.op_skip (g := 4) (d := 65) (b := true) rfl rfl rfl ?_ ?_
 · (
 simp only [Fact.G, Nat.reduceEqDiff, Nat.reduceLT, reduceIte, hf.size, Bool.not_true, Bool.not_false])
 refine Fact.p rfl fun K hK => ?_
 go_simp
 refine hK.out _ _ ?_; clear hK K
 refine Fact.nil ?_
 refine Fact.q hf (by simp only [Fact.G]) rfl fun fr1 hf1 hT => ?_
 have hKp : _ ∧ _ ∧ _ ∧ _ ∧ _ ∧ _ ∧ _ ∧ _ ∧ _ ∧ _ ∧ _ ∧ _ ∧ _ ∧ _ ∧ _ ∧ _ ∧ _ := ⟨hT 0, hT 1, hT 2, hT 3, hT 8, hT 9, hT 10, hT 11, hT 12, hT 61, hT 62, hT 63, hT 64, hT 65, hT 66, hT 67, hT 68⟩
 simp only [Fact.G, Nat.reduceEqDiff, Nat.reduceLT, hf.size, reduceIte, s0, s1, s2, s3, s8, s9, s10, s11, s12] at hKp
 clear hT hf s0 s1 s2 s3 s8 s9 s10 s11 s12 b61 b62 b63 b64 b65 b66 b67
 obtain ⟨s0, s1, s2, s3, s8, s9, s10, s11, s12, s61, s62, s63, s64, s65, s66, s67, s68⟩ := hKp
 have hf := hf1; clear hf1
 refine Fact.nx (hK24 _ _ ?_)
 refine Fact.cond_f s68 ?_
 refine wp_skip ?_
 refine Fact.then_normal ?_
 exact ⟨ys, hfit, hf, s0, s1, s2, s3, s8, s9, s10, s11, hsg, ha, ho⟩)
 · (
 by_cases hh : hint = 1
 · (
 subst hh
 refine wp_seq_k (fun K25 hK25 => ?_)
 refine Fact.region ?_
 have b61 := hf.l 61 rfl
 have b62 := hf.l 62 rfl
 have b63 := hf.l 63 rfl
 have b64 := hf.l 64 rfl
 have b65 := hf.l 65 rfl
 have b66 := hf.l 66 rfl
 have b67 := hf.l 67 rfl
 refine Fact.p rfl fun K hK => ?_
 go_simp
 refine hK.out _ _ ?_; clear hK K
 refine Fact.p rfl fun K hK => ?_
 go_simp
 refine hK.out _ _ ?_; clear hK K
 refine Fact.op_guard (g := 1) (d := 62) (b := true) rfl rfl rfl ?_ (fun K hK => ?_)
 · (
 simp only [Fact.G, Nat.reduceEqDiff, Nat.reduceLT, reduceIte, hf.size])
 go_simp
 refine hK.out _ _ ?_; clear hK K
 refine Fact.p rfl fun K hK => ?_
 go_simp
 refine hK.out _ _ ?_; clear hK K
 refine Fact.p rfl fun K hK => ?_
 go_simp
 refine hK.out _ _ ?_; clear hK K
 refine Fact.op_guard (g := 4) (d := 65) (b := true) rfl rfl rfl ?_ (fun K hK => ?_)
 · (
 simp only [Fact.G, Nat.reduceEqDiff, Nat.reduceLT, reduceIte, hf.size])
 go_simp
 refine hK.out _ _ ?_; clear hK K
 refine Fact.op_guard (g := 4) (d := 65) (b := true) rfl rfl rfl ?_ (fun K hK => ?_)
 · (
 simp only [Fact.G, Nat.reduceEqDiff, Nat.reduceLT, reduceIte, hf.size])
 go_simp
 refine hK.out _ _ ?_; clear hK K
 refine Fact.p rfl fun K hK => ?_
 go_simp
 refine hK.out _ _ ?_; clear hK K
 refine Fact.nil ?_
 refine Fact.q hf (by simp only [Fact.G]) rfl fun fr1 hf1 hT => ?_
 have hKp : _ ∧ _ ∧ _ ∧ _ ∧ _ ∧ _ ∧ _ ∧ _ ∧ _ ∧ _ ∧ _ ∧ _ ∧ _ ∧ _ ∧ _ ∧ _ ∧ _ := ⟨hT 0, hT 1, hT 2, hT 3, hT 8, hT 9, hT 10, hT 11, hT 12, hT 61, hT 62, hT 63, hT 64, hT 65, hT 66, hT 67, hT 68⟩
 simp only [Fact.G, Nat.reduceEqDiff, Nat.reduceLT, hf.size, reduceIte, s0, s1, s2, s3, s8, s9, s10, s11, s12] at hKp
 clear hT hf s0 s1 s2 s3 s8 s9 s10 s11 s12 b61 b62 b63 b64 b65 b66 b67
 obtain ⟨s0, s1, s2, s3, s8, s9, s10, s11, s12, s61, s62, s63, s64, s65, s66, s67, s68⟩ := hKp
 have hf := hf1; clear hf1
 refine Fact.nx (hK25 _ _ ?_)
 refine Fact.cond_t s68 ?_
 refine wp_seq_k (fun K26 hK26 => ?_)
 refine Fact.region ?_
 have b69 := hf.l 69 rfl
 have b70 := hf.l 70 rfl
 have b71 := hf.l 71 rfl
 refine Fact.p rfl fun K hK => ?_
 go_simp
 refine hK.out _ _ ?_; clear hK K
 refine Fact.p rfl fun K hK => ?_
 go_simp
 refine hK.out _ _ ?_; clear hK K
 refine Fact.p rfl fun K hK => ?_
 go_simp
 refine hK.out _ _ ?_; clear hK K
 refine Fact.p rfl fun K hK => ?_
 go_simp
 go_at_call 84; refine (pin_any ys g n c a b w5 HYL.out hnl (by omega) (by omega) (hfit.pre (LOW.out.seg hsg (by rw [HN.out]; exact hB))) ha).mono ?_; rintro e w2 ⟨q, ys2, rfl, hsg2, hso2, ha2, ho2⟩
 dsimp only
 refine hK.out _ _ ?_; clear hK K
 refine Fact.nil ?_
 refine Fact.q hf (by simp only [Fact.G]) rfl fun fr1 hf1 hT => ?_
 have hKp : _ ∧ _ ∧ _ ∧ _ ∧ _ ∧ _ ∧ _ ∧ _ ∧ _ ∧ _ ∧ _ ∧ _ ∧ _ ∧ _ ∧ _ ∧ _ ∧ _ ∧ _ ∧ _ ∧ _ ∧ _ := ⟨hT 0, hT 1, hT 2, hT 3, hT 8, hT 9, hT 10, hT 11, hT 12, hT 61, hT 62, hT 63, hT 64, hT 65, hT 66, hT 67, hT 68, hT 69, hT 70, hT 71, hT 72⟩
 simp only [Fact.G, Nat.reduceEqDiff, Nat.reduceLT, hf.size, reduceIte, s0, s1, s2, s3, s8, s9, s10, s11, s12, s61, s62, s63, s64, s65, s66, s67, s68] at hKp
 clear hT hf s0 s1 s2 s3 s8 s9 s10 s11 s12 s61 s62 s63 s64 s65 s66 s67 s68 b69 b70 b71
 obtain ⟨s0, s1, s2, s3, s8, s9, s10, s11, s12, s61, s62, s63, s64, s65, s66, s67, s68, s69, s70, s71, s72⟩ := hKp
 have hf := hf1; clear hf1
 refine Fact.nx (hK26 _ _ ?_)
 rcases q with _ | _
 · (
 refine Fact.cond_f s72 ?_
 refine wp_skip ?_
 refine Fact.then_normal ?_
 exact ⟨ys2, hfit.seg hsg2, hf, s0, s1, s2, s3, s8, s9, s10, s11, hsg.trans (hsg2.mono hA hbB), ha2, ho.trans ho2⟩)
 · (
 have hso2 := hso2 rfl
 refine Fact.cond_t s72 ?_
 refine wp_ret ?_
 refine Fact.then_ret ?_
 refine Fact.block_ret ?_
 refine Fact.then_ret ?_
 refine Fact.block_ret ?_
 exact Fact.ret0 rfl hf ⟨rfl, ys2, hsg.trans (hsg2.mono hA hbB), (hfit.seg hsg2).done hso2, ha2, ho.trans ho2⟩))
 · (
 have hhI : (hint == 1) = false := by simpa using hh
 refine wp_seq_k (fun K27 hK27 => ?_)
 refine Fact.region ?_
 have b61 := hf.l 61 rfl
 have b62 := hf.l 62 rfl
 have b63 := hf.l 63 rfl
 have b64 := hf.l 64 rfl
 have b65 := hf.l 65 rfl
 have b66 := hf.l 66 rfl
 have b67 := hf.l 67 rfl
 refine Fact.p rfl fun K hK => ?_
 go_simp
 refine hK.out _ _ ?_; clear hK K
 refine Fact.p rfl fun K hK => ?_
 go_simp
 refine hK.out _ _ ?_; clear hK K
 refine Fact.op_guard (g := 1) (d := 62) (b := true) rfl rfl rfl ?_ (fun K hK => ?_)
 · (
 simp only [Fact.G, Nat.reduceEqDiff, Nat.reduceLT, reduceIte, hf.size])
 go_simp
 refine hK.out _ _ ?_; clear hK K
 refine Fact.p rfl fun K hK => ?_
 go_simp
 refine hK.out _ _ ?_; clear hK K
 refine Fact.p rfl fun K hK => ?_
 go_simp
 refine hK.out _ _ ?_; clear hK K
 refine Fact.op_guard (g := 4) (d := 65) (b := true) rfl rfl rfl ?_ (fun K hK => ?_)
 · (
 simp only [Fact.G, Nat.reduceEqDiff, Nat.reduceLT, reduceIte, hf.size])
 go_simp
 refine hK.out _ _ ?_; clear hK K
 refine Fact.op_guard (g := 4) (d := 65) (b := true) rfl rfl rfl ?_ (fun K hK => ?_)
 · (
 simp only [Fact.G, Nat.reduceEqDiff, Nat.reduceLT, reduceIte, hf.size])
 go_simp
 refine hK.out _ _ ?_; clear hK K
 refine Fact.p rfl fun K hK => ?_
 go_simp
 refine hK.out _ _ ?_; clear hK K
 refine Fact.nil ?_
 refine Fact.q hf (by simp only [Fact.G]) rfl fun fr1 hf1 hT => ?_
 have hKp : _ ∧ _ ∧ _ ∧ _ ∧ _ ∧ _ ∧ _ ∧ _ ∧ _ ∧ _ ∧ _ ∧ _ ∧ _ ∧ _ ∧ _ ∧ _ ∧ _ := ⟨hT 0, hT 1, hT 2, hT 3, hT 8, hT 9, hT 10, hT 11, hT 12, hT 61, hT 62, hT 63, hT 64, hT 65, hT 66, hT 67, hT 68⟩
 simp only [Fact.G, Nat.reduceEqDiff, Nat.reduceLT, hf.size, reduceIte, s0, s1, s2, s3, s8, s9, s10, s11, s12] at hKp
 clear hT hf s0 s1 s2 s3 s8 s9 s10 s11 s12 b61 b62 b63 b64 b65 b66 b67
 obtain ⟨s0, s1, s2, s3, s8, s9, s10, s11, s12, s61, s62, s63, s64, s65, s66, s67, s68⟩ := hKp
 have hf := hf1; clear hf1
 refine Fact.nx (hK27 _ _ ?_)
 refine Fact.cond_f s68 ?_
 refine wp_skip ?_
 refine Fact.then_normal ?_
 exact ⟨ys, hfit, hf, s0, s1, s2, s3, s8, s9, s10, s11, hsg, ha, ho⟩))))
 · (
 clear hf s0 s1 s2 s3 s8 s9 s10 s11 s12
 clear hfit hsg ha ho HYL
 rintro fr w6 ⟨ys, hfit, hf, s0, s1, s2, s3, s8, s9, s10, s11, hsg, ha, ho⟩
 have HYL := Lib.hid (show ys.length = n by rw [hsg.len]; exact HN.out)
 have HPRE := Lib.hid (hfit.pre (LOW.out.seg hsg (by rw [HN.out]; exact hB)))
 refine Fact.seq_meet (fun fr w7 => Fact.Fr 134 fr ∧ fr.tmps[0]? = some (.slice (some ⟨g, 0, none⟩) n c) ∧ fr.tmps[1]? = some (.int .i64 a) ∧ fr.tmps[2]? = some (.int .i64 b) ∧ fr.tmps[3]? = some (.int .i64 lim) ∧ fr.tmps[8]? = some (.bool q1) ∧ fr.tmps[9]? = some (.bool q2) ∧ fr.tmps[10]? = some (.int .i64 l) ∧ fr.tmps[11]? = some (.int .i64 p) ∧ Arr w7 g ys ∧ Only w w7 g) ?_ ?_
 · (
 rcases Nat.eq_zero_or_pos a with ha0 | ha0
 · (
 have ha0I : ¬ (0 : Int) < (a : Int) := by omega
 refine wp_seq_k (fun K28 hK28 => ?_)
 refine Stage.begin_ (n := 134) [] (fun k w1 => w1 = [w6.drew].getD k (w6.drew)) (Stab.OkOps.of (by kernel_rfl)) (fun hok => ?_)
 refine Stage.mvO (k := 0) s1 hf.size hok.out rfl rfl rfl (.inl rfl) (by kernel_rfl) (by kernel_rfl) ?_
 apply Stage.t 1 _ hf.size hok.out rfl (by kernel_rfl)
 · (
 intro fr1 w1 hh hd hk K hK
 refine Stab.op_plain (o := _) rfl rfl ?_
 have s73 := Stage.u 0 0 hd hk rfl [] (by kernel_rfl) rfl rfl rfl
 clear hd
 go_simp
 exact hK.out _ rfl _ rfl)
 refine Stage.mvN (k := 2) (j := 1) (m := 0) hf.size hok.out rfl rfl rfl (.inl rfl) rfl [] (by kernel_rfl) rfl rfl rfl (by kernel_rfl) ?_
 apply Stage.t 3 _ hf.size hok.out rfl (by kernel_rfl)
 · (
 intro fr1 w1 hh hd hk K hK
 have s75 := Stage.u 2 0 hd hk rfl [] (by kernel_rfl) rfl rfl rfl
 refine Stab.op_skip (o := _) rfl rfl rfl rfl s75 ?_
 exact hK.out _ rfl _ rfl)
 apply Stage.t 4 _ hf.size hok.out rfl (by kernel_rfl)
 · (
 intro fr1 w1 hh hd hk K hK
 have s75 := Stage.u 2 1 hd hk rfl [] (by kernel_rfl) rfl rfl rfl
 refine Stab.op_skip (o := _) rfl rfl rfl rfl s75 ?_
 exact hK.out _ rfl _ rfl)
 apply Stage.t 5 _ hf.size hok.out rfl (by kernel_rfl)
 · (
 intro fr1 w1 hh hd hk K hK
 have s75 := Stage.u 2 2 hd hk rfl [] (by kernel_rfl) rfl rfl rfl
 refine Stab.op_skip (o := _) rfl rfl rfl rfl s75 ?_
 exact hK.out _ rfl _ rfl)
 apply Stage.t 6 _ hf.size hok.out rfl (by kernel_rfl)
 · (
 intro fr1 w1 hh hd hk K hK
 have s75 := Stage.u 2 3 hd hk rfl [] (by kernel_rfl) rfl rfl rfl
 refine Stab.op_skip (o := _) rfl rfl rfl rfl s75 ?_
 exact hK.out _ rfl _ rfl)
 apply Stage.t 7 _ hf.size hok.out rfl (by kernel_rfl)
 · (
 intro fr1 w1 hh hd hk K hK
 have s75 := Stage.u 2 4 hd hk rfl [] (by kernel_rfl) rfl rfl rfl
 refine Stab.op_skip (o := _) rfl rfl rfl rfl s75 ?_
 exact hK.out _ rfl _ rfl)
 apply Stage.t 8 _ hf.size hok.out rfl (by kernel_rfl)
 · (
 intro fr1 w1 hh hd hk K hK
 have s75 := Stage.u 2 5 hd hk rfl [] (by kernel_rfl) rfl rfl rfl
 refine Stab.op_skip (o := _) rfl rfl rfl rfl s75 ?_
 exact hK.out _ rfl _ rfl)
 apply Stage.t 9 _ hf.size hok.out rfl (by kernel_rfl)
 · (
 intro fr1 w1 hh hd hk K hK
 have s75 := Stage.u 2 6 hd hk rfl [] (by kernel_rfl) rfl rfl rfl
 refine Stab.op_skip (o := _) rfl rfl rfl rfl s75 ?_
 exact hK.out _ rfl _ rfl)
 apply Stage.t 10 _ hf.size hok.out rfl (by kernel_rfl)
 · (
 intro fr1 w1 hh hd hk K hK
 have s75 := Stage.u 2 7 hd hk rfl [] (by kernel_rfl) rfl rfl rfl
 refine Stab.op_skip (o := _) rfl rfl rfl rfl s75 ?_
 exact hK.out _ rfl _ rfl)
 apply Stage.t 11 _ hf.size hok.out rfl (by kernel_rfl)
 · (
 intro fr1 w1 hh hd hk K hK
 have s75 := Stage.u 2 8 hd hk rfl [] (by kernel_rfl) rfl rfl rfl
 refine Stab.op_skip (o := _) rfl rfl rfl rfl s75 ?_
 exact hK.out _ rfl _ rfl)
 apply Stage.t 12 _ hf.size hok.out rfl (by kernel_rfl)
 · (
 intro fr1 w1 hh hd hk K hK
 have s75 := Stage.u 2 9 hd hk rfl [] (by kernel_rfl) rfl rfl rfl
 refine Stab.op_skip (o := _) rfl rfl rfl rfl s75 ?_
 exact hK.out _ rfl _ rfl)
 apply Stage.t 13 _ hf.size hok.out rfl (by kernel_rfl)
 · (
 intro fr1 w1 hh hd hk K hK
 have s75 := Stage.u 2 10 hd hk rfl [] (by kernel_rfl) rfl rfl rfl
 refine Stab.op_skip (o := _) rfl rfl rfl rfl s75 ?_
 exact hK.out _ rfl _ rfl)
 apply Stage.t 14 _ hf.size hok.out rfl (by kernel_rfl)
 · (
 intro fr1 w1 hh hd hk K hK
 refine Stab.op_plain (o := _) rfl rfl ?_
 have s75 := Stage.u 2 11 hd hk rfl [] (by kernel_rfl) rfl rfl rfl
 have s86 := Stage.u 13 0 hd hk rfl [] (by kernel_rfl) rfl rfl rfl
 clear hd
 go_simp
 exact hK.out _ rfl _ rfl)
 refine Stage.todo_facts (n := 134) (by kernel_rfl) hf.size hok.out rfl (by decide) (by decide) rfl (fun fr1 w1 hh hg hw => ?_)
 replace hw : w1 = w6.drew := hw
 subst hw
 replace s0 := Stage.o hh (by kernel_rfl) s0
 replace s1 := Stage.o hh (by kernel_rfl) s1
 replace s2 := Stage.o hh (by kernel_rfl) s2
 replace s3 := Stage.o hh (by kernel_rfl) s3
 replace s8 := Stage.o hh (by kernel_rfl) s8
 replace s9 := Stage.o hh (by kernel_rfl) s9
 replace s10 := Stage.o hh (by kernel_rfl) s10
 replace s11 := Stage.o hh (by kernel_rfl) s11
 have s73 := Stage.e 0 14 hg rfl rfl rfl rfl
 have s74 := Stage.e 1 13 hg rfl rfl rfl rfl
 have s75 := Stage.e 2 12 hg rfl rfl rfl rfl
 have s76 := Stage.e 3 11 hg rfl rfl rfl rfl
 have s77 := Stage.e 4 10 hg rfl rfl rfl rfl
 have s78 := Stage.e 5 9 hg rfl rfl rfl rfl
 have s79 := Stage.e 6 8 hg rfl rfl rfl rfl
 have s80 := Stage.e 7 7 hg rfl rfl rfl rfl
 have s81 := Stage.e 8 6 hg rfl rfl rfl rfl
 have s82 := Stage.e 9 5 hg rfl rfl rfl rfl
 have s83 := Stage.e 10 4 hg rfl rfl rfl rfl
 have s84 := Stage.e 11 3 hg rfl rfl rfl rfl
 have s85 := Stage.e 12 2 hg rfl rfl rfl rfl
 have s86 := Stage.e 13 1 hg rfl rfl rfl rfl
 have s87 := Stage.e 14 0 hg rfl rfl rfl rfl
 have hf1 : Fact.Fr 134 fr1 := ⟨hh.size.trans hf.size, hh.defers.trans hf.defers⟩
 clear hg hh hf
 have hf := hf1; clear hf1
 clear hok
 have ha3 := ha.drew; have ho3 := ho.drew
 clear ha ho
 generalize w6.drew = wd at *
 refine Fact.nx (hK28 _ _ ?_)
 refine Fact.cond_f s87 ?_
 refine wp_skip ?_
 refine Fact.then_normal ?_
 exact ⟨hf, s0, s1, s2, s3, s8, s9, s10, s11, ha3, ho3⟩)
 · (
 have ha0I : (0 : Int) < (a : Int) := by omega
 obtain ⟨r, hr⟩ : ∃ r : Nat, r = a - 1 := ⟨_, rfl⟩
 have e2 : IntKind.i64.wrap ((a : Int) - 1) = (r : Int) := by rw [Fact.wrap_i64 (by omega) (by omega)]; omega
 have b1 : r < n := by omega
 have b2 : p < n := by omega
 have HR := Lib.hid hr; clear hr
 obtain ⟨x, hx⟩ : ∃ v, ys[r]? = some v := ⟨ys[r]'(by have := HYL.out; omega), List.getElem?_eq_getElem _⟩
 have Hxd := Lib.hid (show ys.getD (r) 0 = x by simp [List.getD, hx])
 have Hx := Lib.hid hx
 clear hx
 obtain ⟨y, hy⟩ : ∃ v, ys[p]? = some v := ⟨ys[p]'(by have := HYL.out; omega), List.getElem?_eq_getElem _⟩
 have Hyd := Lib.hid (show ys.getD (p) 0 = y by simp [List.getD, hy])
 have Hy := Lib.hid hy
 clear hy
 have cx := ha.cell Hx.out; have cy := ha.cell Hy.out
 by_cases hxy : x < y
 · (
 refine wp_seq_k (fun K29 hK29 => ?_)
 refine Stage.begin_ (n := 134) [] (fun k w1 => w1 = [w6.drew].getD k (w6.drew)) (Stab.OkOps.of (by kernel_rfl)) (fun hok => ?_)
 refine Stage.mvO (k := 0) s1 hf.size hok.out rfl rfl rfl (.inl rfl) (by kernel_rfl) (by kernel_rfl) ?_
 apply Stage.t 1 _ hf.size hok.out rfl (by kernel_rfl)
 · (
 intro fr1 w1 hh hd hk K hK
 refine Stab.op_plain (o := _) rfl rfl ?_
 have s73 := Stage.u 0 0 hd hk rfl [] (by kernel_rfl) rfl rfl rfl
 clear hd
 go_simp
 exact hK.out _ rfl _ rfl)
 refine Stage.mvN (k := 2) (j := 1) (m := 0) hf.size hok.out rfl rfl rfl (.inl rfl) rfl [] (by kernel_rfl) rfl rfl rfl (by kernel_rfl) ?_
 apply Stage.t 3 _ hf.size hok.out rfl (by kernel_rfl)
 · (
 intro fr1 w1 hh hd hk K hK
 have s75 := Stage.u 2 0 hd hk rfl [] (by kernel_rfl) rfl rfl rfl
 refine Stab.op_guard (o := _) rfl rfl rfl rfl s75 ?_
 have s0 := Stage.o hh (by kernel_rfl) s0
 clear hd
 go_simp
 exact hK.out _ rfl _ rfl)
 apply Stage.t 4 _ hf.size hok.out rfl (by kernel_rfl)
 · (
 intro fr1 w1 hh hd hk K hK
 have s75 := Stage.u 2 1 hd hk rfl [] (by kernel_rfl) rfl rfl rfl
 refine Stab.op_guard (o := _) rfl rfl rfl rfl s75 ?_
 have s1 := Stage.o hh (by kernel_rfl) s1
 clear hd
 go_simp
 exact hK.out _ rfl _ rfl)
 apply Stage.t 5 _ hf.size hok.out rfl (by kernel_rfl)
 · (
 intro fr1 w1 hh hd hk K hK
 have s75 := Stage.u 2 2 hd hk rfl [] (by kernel_rfl) rfl rfl rfl
 refine Stab.op_guard (o := _) rfl rfl rfl rfl s75 ?_
 have s77 := Stage.u 4 0 hd hk rfl [] (by kernel_rfl) rfl rfl rfl
 clear hd
 go_simp
 exact hK.out _ rfl _ rfl)
 apply Stage.t 6 _ hf.size hok.out rfl (by kernel_rfl)
 · (
 intro fr1 w1 hh hd hk K hK
 have s75 := Stage.u 2 3 hd hk rfl [] (by kernel_rfl) rfl rfl rfl
 refine Stab.op_guard (o := _) rfl rfl rfl rfl s75 ?_
 have s76 := Stage.u 3 2 hd hk rfl [] (by kernel_rfl) rfl rfl rfl
 have s78 := Stage.u 5 0 hd hk rfl [] (by kernel_rfl) rfl rfl rfl
 clear hd
 go_simp
 exact hK.out _ rfl _ rfl)
 apply Stage.todo_look (k := 7) (n := 134) 0 [] [] _ hf.size hok.out rfl (by kernel_rfl)
 · (
 intro fr1 w1 hh hw hd hk K hK
 replace hw : w1 = w6.drew := hw
 subst hw
 have s75 := Stage.u 2 4 hd hk rfl [] (by kernel_rfl) rfl rfl rfl
 refine Stab.op_guard (o := _) rfl rfl rfl rfl s75 ?_
 have s79 := Stage.u 6 0 hd hk rfl [] (by kernel_rfl) rfl rfl rfl
 clear hd
 go_simp
 exact hK.out _ rfl _ _ rfl rfl)
 apply Stage.t 8 _ hf.size hok.out rfl (by kernel_rfl)
 · (
 intro fr1 w1 hh hd hk K hK
 have s75 := Stage.u 2 5 hd hk rfl [] (by kernel_rfl) rfl rfl rfl
 refine Stab.op_guard (o := _) rfl rfl rfl rfl s75 ?_
 have s0 := Stage.o hh (by kernel_rfl) s0
 clear hd
 go_simp
 exact hK.out _ rfl _ rfl)
 apply Stage.t 9 _ hf.size hok.out rfl (by kernel_rfl)
 · (
 intro fr1 w1 hh hd hk K hK
 have s75 := Stage.u 2 6 hd hk rfl [] (by kernel_rfl) rfl rfl rfl
 refine Stab.op_guard (o := _) rfl rfl rfl rfl s75 ?_
 have s11 := Stage.o hh (by kernel_rfl) s11
 clear hd
 go_simp
 exact hK.out _ rfl _ rfl)
 apply Stage.t 10 _ hf.size hok.out rfl (by kernel_rfl)
 · (
 intro fr1 w1 hh hd hk K hK
 have s75 := Stage.u 2 7 hd hk rfl [] (by kernel_rfl) rfl rfl rfl
 refine Stab.op_guard (o := _) rfl rfl rfl rfl s75 ?_
 have s81 := Stage.u 8 1 hd hk rfl [] (by kernel_rfl) rfl rfl rfl
 have s82 := Stage.u 9 0 hd hk rfl [] (by kernel_rfl) rfl rfl rfl
 clear hd
 go_simp
 exact hK.out _ rfl _ rfl)
 apply Stage.todo_look (k := 11) (n := 134) 0 [] [] _ hf.size hok.out rfl (by kernel_rfl)
 · (
 intro fr1 w1 hh hw hd hk K hK
 replace hw : w1 = w6.drew := hw
 subst hw
 have s75 := Stage.u 2 8 hd hk rfl [] (by kernel_rfl) rfl rfl rfl
 refine Stab.op_guard (o := _) rfl rfl rfl rfl s75 ?_
 have s83 := Stage.u 10 0 hd hk rfl [] (by kernel_rfl) rfl rfl rfl
 clear hd
 go_simp
 exact hK.out _ rfl _ _ rfl rfl)
 apply Stage.todo_look (k := 12) (n := 134) 0 [] [] _ hf.size hok.out rfl (by kernel_rfl)
 · (
 intro fr1 w1 hh hw hd hk K hK
 replace hw : w1 = w6.drew := hw
 subst hw
 have s75 := Stage.u 2 9 hd hk rfl [] (by kernel_rfl) rfl rfl rfl
 refine Stab.op_guard (o := _) rfl rfl rfl rfl s75 ?_
 have s80 := Stage.u 7 4 hd hk rfl [] (by kernel_rfl) rfl rfl rfl
 have s84 := Stage.u 11 0 hd hk rfl [] (by kernel_rfl) rfl rfl rfl
 clear hd
 go_simp
 go_at_call 85; refine (less_any _ _ _).mono ?_; rintro e w2 ⟨rfl, rfl⟩
 exact hK.out _ rfl _ _ rfl rfl)
 apply Stage.t 13 _ hf.size hok.out rfl (by kernel_rfl)
 · (
 intro fr1 w1 hh hd hk K hK
 have s75 := Stage.u 2 10 hd hk rfl [] (by kernel_rfl) rfl rfl rfl
 refine Stab.op_guard (o := _) rfl rfl rfl rfl s75 ?_
 have s85 := Stage.u 12 0 hd hk rfl [] (by kernel_rfl) rfl rfl rfl
 clear hd
 go_simp
 exact hK.out _ rfl _ rfl)
 apply Stage.t 14 _ hf.size hok.out rfl (by kernel_rfl)
 · (
 intro fr1 w1 hh hd hk K hK
 refine Stab.op_plain (o := _) rfl rfl ?_
 have s75 := Stage.u 2 11 hd hk rfl [] (by kernel_rfl) rfl rfl rfl
 have s86 := Stage.u 13 0 hd hk rfl [] (by kernel_rfl) rfl rfl rfl
 clear hd
 go_simp
 exact hK.out _ rfl _ rfl)
 refine Stage.todo_facts (n := 134) (by kernel_rfl) hf.size hok.out rfl (by decide) (by decide) rfl (fun fr1 w1 hh hg hw => ?_)
 replace hw : w1 = w6.drew := hw
 subst hw
 replace s0 := Stage.o hh (by kernel_rfl) s0
 replace s1 := Stage.o hh (by kernel_rfl) s1
 replace s2 := Stage.o hh (by kernel_rfl) s2
 replace s3 := Stage.o hh (by kernel_rfl) s3
 replace s8 := Stage.o hh (by kernel_rfl) s8
 replace s9 := Stage.o hh (by kernel_rfl) s9
 replace s10 := Stage.o hh (by kernel_rfl) s10
 replace s11 := Stage.o hh (by kernel_rfl) s11
 have s73 := Stage.e 0 14 hg rfl rfl rfl rfl
 have s74 := Stage.e 1 13 hg rfl rfl rfl rfl
 have s75 := Stage.e 2 12 hg rfl rfl rfl rfl
 have s76 := Stage.e 3 11 hg rfl rfl rfl rfl
 have s77 := Stage.e 4 10 hg rfl rfl rfl rfl
 have s78 := Stage.e 5 9 hg rfl rfl rfl rfl
 have s79 := Stage.e 6 8 hg rfl rfl rfl rfl
 have s80 := Stage.e 7 7 hg rfl rfl rfl rfl
 have s81 := Stage.e 8 6 hg rfl rfl rfl rfl
 have s82 := Stage.e 9 5 hg rfl rfl rfl rfl
 have s83 := Stage.e 10 4 hg rfl rfl rfl rfl
 have s84 := Stage.e 11 3 hg rfl rfl rfl rfl
 have s85 := Stage.e 12 2 hg rfl rfl rfl rfl
 have s86 := Stage.e 13 1 hg rfl rfl rfl rfl
 have s87 := Stage.e 14 0 hg rfl rfl rfl rfl
 have hf1 : Fact.Fr 134 fr1 := ⟨hh.size.trans hf.size, hh.defers.trans hf.defers⟩
 clear hg hh hf
 have hf := hf1; clear hf1
 clear hok
 have ha3 := ha.drew; have ho3 := ho.drew
 clear ha ho cx cy
 generalize w6.drew = wd at *
 refine Fact.nx (hK29 _ _ ?_)
 try simp only [hxy, decide_true, decide_false, Bool.not_true, Bool.not_false] at s87
 refine Fact.cond_f s87 ?_
 refine wp_skip ?_
 refine Fact.then_normal ?_
 exact ⟨hf, s0, s1, s2, s3, s8, s9, s10, s11, ha3, ho3⟩)
 · (
 refine wp_seq_k (fun K30 hK30 => ?_)
 refine Stage.begin_ (n := 134) [] (fun k w1 => w1 = [w6.drew].getD k (w6.drew)) (Stab.OkOps.of (by kernel_rfl)) (fun hok => ?_)
 refine Stage.mvO (k := 0) s1 hf.size hok.out rfl rfl rfl (.inl rfl) (by kernel_rfl) (by kernel_rfl) ?_
 apply Stage.t 1 _ hf.size hok.out rfl (by kernel_rfl)
 · (
 intro fr1 w1 hh hd hk K hK
 refine Stab.op_plain (o := _) rfl rfl ?_
 have s73 := Stage.u 0 0 hd hk rfl [] (by kernel_rfl) rfl rfl rfl
 clear hd
 go_simp
 exact hK.out _ rfl _ rfl)
 refine Stage.mvN (k := 2) (j := 1) (m := 0) hf.size hok.out rfl rfl rfl (.inl rfl) rfl [] (by kernel_rfl) rfl rfl rfl (by kernel_rfl) ?_
 apply Stage.t 3 _ hf.size hok.out rfl (by kernel_rfl)
 · (
 intro fr1 w1 hh hd hk K hK
 have s75 := Stage.u 2 0 hd hk rfl [] (by kernel_rfl) rfl rfl rfl
 refine Stab.op_guard (o := _) rfl rfl rfl rfl s75 ?_
 have s0 := Stage.o hh (by kernel_rfl) s0
 clear hd
 go_simp
 exact hK.out _ rfl _ rfl)
 apply Stage.t 4 _ hf.size hok.out rfl (by kernel_rfl)
 · (
 intro fr1 w1 hh hd hk K hK
 have s75 := Stage.u 2 1 hd hk rfl [] (by kernel_rfl) rfl rfl rfl
 refine Stab.op_guard (o := _) rfl rfl rfl rfl s75 ?_
 have s1 := Stage.o hh (by kernel_rfl) s1
 clear hd
 go_simp
 exact hK.out _ rfl _ rfl)
 apply Stage.t 5 _ hf.size hok.out rfl (by kernel_rfl)
 · (
 intro fr1 w1 hh hd hk K hK
 have s75 := Stage.u 2 2 hd hk rfl [] (by kernel_rfl) rfl rfl rfl
 refine Stab.op_guard (o := _) rfl rfl rfl rfl s75 ?_
 have s77 := Stage.u 4 0 hd hk rfl [] (by kernel_rfl) rfl rfl rfl
 clear hd
 go_simp
 exact hK.out _ rfl _ rfl)
 apply Stage.t 6 _ hf.size hok.out rfl (by kernel_rfl)
 · (
 intro fr1 w1 hh hd hk K hK
 have s75 := Stage.u 2 3 hd hk rfl [] (by kernel_rfl) rfl rfl rfl
 refine Stab.op_guard (o := _) rfl rfl rfl rfl s75 ?_
 have s76 := Stage.u 3 2 hd hk rfl [] (by kernel_rfl) rfl rfl rfl
 have s78 := Stage.u 5 0 hd hk rfl [] (by kernel_rfl) rfl rfl rfl
 clear hd
 go_simp
 exact hK.out _ rfl _ rfl)
 apply Stage.todo_look (k := 7) (n := 134) 0 [] [] _ hf.size hok.out rfl (by kernel_rfl)
 · (
 intro fr1 w1 hh hw hd hk K hK
 replace hw : w1 = w6.drew := hw
 subst hw
 have s75 := Stage.u 2 4 hd hk rfl [] (by kernel_rfl) rfl rfl rfl
 refine Stab.op_guard (o := _) rfl rfl rfl rfl s75 ?_
 have s79 := Stage.u 6 0 hd hk rfl [] (by kernel_rfl) rfl rfl rfl
 clear hd
 go_simp
 exact hK.out _ rfl _ _ rfl rfl)
 apply Stage.t 8 _ hf.size hok.out rfl (by kernel_rfl)
 · (
 intro fr1 w1 hh hd hk K hK
 have s75 := Stage.u 2 5 hd hk rfl [] (by kernel_rfl) rfl rfl rfl
 refine Stab.op_guard (o := _) rfl rfl rfl rfl s75 ?_
 have s0 := Stage.o hh (by kernel_rfl) s0
 clear hd
 go_simp
 exact hK.out _ rfl _ rfl)
 apply Stage.t 9 _ hf.size hok.out rfl (by kernel_rfl)
 · (
 intro fr1 w1 hh hd hk K hK
 have s75 := Stage.u 2 6 hd hk rfl [] (by kernel_rfl) rfl rfl rfl
 refine Stab.op_guard (o := _) rfl rfl rfl rfl s75 ?_
 have s11 := Stage.o hh (by kernel_rfl) s11
 clear hd
 go_simp
 exact hK.out _ rfl _ rfl)
 apply Stage.t 10 _ hf.size hok.out rfl (by kernel_rfl)
 · (
 intro fr1 w1 hh hd hk K hK
 have s75 := Stage.u 2 7 hd hk rfl [] (by kernel_rfl) rfl rfl rfl
 refine Stab.op_guard (o := _) rfl rfl rfl rfl s75 ?_
 have s81 := Stage.u 8 1 hd hk rfl [] (by kernel_rfl) rfl rfl rfl
 have s82 := Stage.u 9 0 hd hk rfl [] (by kernel_rfl) rfl rfl rfl
 clear hd
 go_simp
 exact hK.out _ rfl _ rfl)
 apply Stage.todo_look (k := 11) (n := 134) 0 [] [] _ hf.size hok.out rfl (by kernel_rfl)
 · (
 intro fr1 w1 hh hw hd hk K hK
 replace hw : w1 = w6.drew := hw
 subst hw
 have s75 := Stage.u 2 8 hd hk rfl [] (by kernel_rfl) rfl rfl rfl
 refine Stab.op_guard (o := _) rfl rfl rfl rfl s75 ?_
 have s83 := Stage.u 10 0 hd hk rfl [] (by kernel_rfl) rfl rfl rfl
 clear hd
 go_simp
 exact hK.out _ rfl _ _ rfl rfl)
 apply Stage.todo_look (k := 12) (n := 134) 0 [] [] _ hf.size hok.out rfl (by kernel_rfl)
 · (
 intro fr1 w1 hh hw hd hk K hK
 replace hw : w1 = w6.drew := hw
 subst hw
 have s75 := Stage.u 2 9 hd hk rfl [] (by kernel_rfl) rfl rfl rfl
 refine Stab.op_guard (o := _) rfl rfl rfl rfl s75 ?_
 have s80 := Stage.u 7 4 hd hk rfl [] (by kernel_rfl) rfl rfl rfl
 have s84 := Stage.u 11 0 hd hk rfl [] (by kernel_rfl) rfl rfl rfl
 clear hd
 go_simp
 go_at_call 85; refine (less_any _ _ _).mono ?_; rintro e w2 ⟨rfl, rfl⟩
 exact hK.out _ rfl _ _ rfl rfl)
 apply Stage.t 13 _ hf.size hok.out rfl (by kernel_rfl)
 · (
 intro fr1 w1 hh hd hk K hK
 have s75 := Stage.u 2 10 hd hk rfl [] (by kernel_rfl) rfl rfl rfl
 refine Stab.op_guard (o := _) rfl rfl rfl rfl s75 ?_
 have s85 := Stage.u 12 0 hd hk rfl [] (by kernel_rfl) rfl rfl rfl
 clear hd
 go_simp
 exact hK.out _ rfl _ rfl)
 apply Stage.t 14 _ hf.size hok.out rfl (by kernel_rfl)
 · (
 intro fr1 w1 hh hd hk K hK
 refine Stab.op_plain (o := _) rfl rfl ?_
 have s75 := Stage.u 2 11 hd hk rfl [] (by kernel_rfl) rfl rfl rfl
 have s86 := Stage.u 13 0 hd hk rfl [] (by kernel_rfl) rfl rfl rfl
 clear hd
 go_simp
 exact hK.out _ rfl _ rfl)
 refine Stage.todo_facts (n := 134) (by kernel_rfl) hf.size hok.out rfl (by decide) (by decide) rfl (fun fr1 w1 hh hg hw => ?_)
 replace hw : w1 = w6.drew := hw
 subst hw
 replace s0 := Stage.o hh (by kernel_rfl) s0
 replace s1 := Stage.o hh (by kernel_rfl) s1
 replace s2 := Stage.o hh (by kernel_rfl) s2
 replace s3 := Stage.o hh (by kernel_rfl) s3
 replace s8 := Stage.o hh (by kernel_rfl) s8
 replace s9 := Stage.o hh (by kernel_rfl) s9
 replace s10 := Stage.o hh (by kernel_rfl) s10
 replace s11 := Stage.o hh (by kernel_rfl) s11
 have s73 := Stage.e 0 14 hg rfl rfl rfl rfl
 have s74 := Stage.e 1 13 hg rfl rfl rfl rfl
 have s75 := Stage.e 2 12 hg rfl rfl rfl rfl
 have s76 := Stage.e 3 11 hg rfl rfl rfl rfl
 have s77 := Stage.e 4 10 hg rfl rfl rfl rfl
 have s78 := Stage.e 5 9 hg rfl rfl rfl rfl
 have s79 := Stage.e 6 8 hg rfl rfl rfl rfl
 have s80 := Stage.e 7 7 hg rfl rfl rfl rfl
 have s81 := Stage.e 8 6 hg rfl rfl rfl rfl
 have s82 := Stage.e 9 5 hg rfl rfl rfl rfl
 have s83 := Stage.e 10 4 hg rfl rfl rfl rfl
 have s84 := Stage.e 11 3 hg rfl rfl rfl rfl
 have s85 := Stage.e 12 2 hg rfl rfl rfl rfl
 have s86 := Stage.e 13 1 hg rfl rfl rfl rfl
 have s87 := Stage.e 14 0 hg rfl rfl rfl rfl
 have hf1 : Fact.Fr 134 fr1 := ⟨hh.size.trans hf.size, hh.defers.trans hf.defers⟩
 clear hg hh hf
 have hf := hf1; clear hf1
 clear hok
 have ha3 := ha.drew; have ho3 := ho.drew
 clear ha ho cx cy
 generalize w6.drew = wd at *
 refine Fact.nx (hK30 _ _ ?_)
 try simp only [hxy, decide_true, decide_false, Bool.not_true, Bool.not_false] at s87
 have HXY := Lib.hid hxy
 refine Fact.cond_t s87 ?_
 refine wp_seq_k (fun K31 hK31 => ?_)
 refine Fact.region ?_
 have b88 := hf.l 88 rfl
 have b89 := hf.l 89 rfl
 have b90 := hf.l 90 rfl
 have b91 := hf.l 91 rfl
 have b92 := hf.l 92 rfl
 refine Fact.p rfl fun K hK => ?_
 go_simp
 refine hK.out _ _ ?_; clear hK K
 refine Fact.p rfl fun K hK => ?_
 go_simp
 refine hK.out _ _ ?_; clear hK K
 refine Fact.p rfl fun K hK => ?_
 go_simp
 refine hK.out _ _ ?_; clear hK K
 refine Fact.p rfl fun K hK => ?_
 go_simp
 refine hK.out _ _ ?_; clear hK K
 refine Fact.p rfl fun K hK => ?_
 go_simp
 go_at_call 86; refine (parteq_any ys g n c a b p wd HYL.out hnl hap hpb (by omega) ha3).mono ?_; rintro e w2 ⟨m, ys2, rfl, ham, hmb, hsg2, hpv, hle, hgt, ha2, ho2⟩
 have HPV := Lib.hid hpv; clear hpv
 dsimp only
 refine hK.out _ _ ?_; clear hK K
 refine Fact.p rfl fun K hK => ?_
 go_simp
 refine hK.out _ _ ?_; clear hK K
 refine Fact.nil ?_
 refine Fact.q hf (by simp only [Fact.G]) rfl fun fr1 hf1 hT => ?_
 have hKp : _ ∧ _ ∧ _ ∧ _ ∧ _ ∧ _ ∧ _ ∧ _ ∧ _ ∧ _ ∧ _ ∧ _ ∧ _ ∧ _ ∧ _ ∧ _ ∧ _ ∧ _ ∧ _ ∧ _ ∧ _ ∧ _ ∧ _ ∧ _ ∧ _ ∧ _ ∧ _ ∧ _ ∧ _ := ⟨hT 0, hT 1, hT 2, hT 3, hT 8, hT 9, hT 10, hT 11, hT 13, hT 73, hT 74, hT 75, hT 76, hT 77, hT 78, hT 79, hT 80, hT 81, hT 82, hT 83, hT 84, hT 85, hT 86, hT 87, hT 88, hT 89, hT 90, hT 91, hT 92⟩
 simp only [Fact.G, Nat.reduceEqDiff, Nat.reduceLT, hf.size, reduceIte, s0, s1, s2, s3, s8, s9, s10, s11, s73, s74, s75, s76, s77, s78, s79, s80, s81, s82, s83, s84, s85, s86, s87] at hKp
 clear hT hf s0 s1 s2 s3 s8 s9 s10 s11 s73 s74 s75 s76 s77 s78 s79 s80 s81 s82 s83 s84 s85 s86 s87 b88 b89 b90 b91 b92
 obtain ⟨s0, s1, s2, s3, s8, s9, s10, s11, s13, s73, s74, s75, s76, s77, s78, s79, s80, s81, s82, s83, s84, s85, s86, s87, s88, s89, s90, s91, s92⟩ := hKp
 have hf := hf1; clear hf1
 refine Fact.nx (hK31 _ _ ?_)
 refine wp_seq_k (fun K32 hK32 => ?_)
 refine Fact.region ?_
 have b93 := hf.l 93 rfl
 refine Fact.p rfl fun K hK => ?_
 go_simp
 refine hK.out _ _ ?_; clear hK K
 refine Fact.p rfl fun K hK => ?_
 go_simp
 refine hK.out _ _ ?_; clear hK K
 refine Fact.nil ?_
 refine Fact.q hf (by simp only [Fact.G]) rfl fun fr1 hf1 hT => ?_
 have hKp : _ ∧ _ ∧ _ ∧ _ ∧ _ ∧ _ ∧ _ ∧ _ ∧ _ ∧ _ ∧ _ ∧ _ ∧ _ ∧ _ ∧ _ ∧ _ ∧ _ ∧ _ ∧ _ ∧ _ ∧ _ ∧ _ ∧ _ ∧ _ ∧ _ ∧ _ ∧ _ ∧ _ ∧ _ ∧ _ := ⟨hT 0, hT 1, hT 2, hT 3, hT 8, hT 9, hT 10, hT 11, hT 13, hT 73, hT 74, hT 75, hT 76, hT 77, hT 78, hT 79, hT 80, hT 81, hT 82, hT 83, hT 84, hT 85, hT 86, hT 87, hT 88, hT 89, hT 90, hT 91, hT 92, hT 93⟩
 simp only [Fact.G, Nat.reduceEqDiff, Nat.reduceLT, hf.size, reduceIte, s0, s2, s3, s8, s9, s10, s11, s13, s73, s74, s75, s76, s77, s78, s79, s80, s81, s82, s83, s84, s85, s86, s87, s88, s89, s90, s91, s92] at hKp
 clear hT hf s0 s1 s2 s3 s8 s9 s10 s11 s13 s73 s74 s75 s76 s77 s78 s79 s80 s81 s82 s83 s84 s85 s86 s87 s88 s89 s90 s91 s92 b93
 obtain ⟨s0, s1, s2, s3, s8, s9, s10, s11, s13, s73, s74, s75, s76, s77, s78, s79, s80, s81, s82, s83, s84, s85, s86, s87, s88, s89, s90, s91, s92, s93⟩ := hKp
 have hf := hf1; clear hf1
 refine Fact.nx (hK32 _ _ ?_)
 refine wp_exit ?_
 refine Fact.then_exit ?_
 refine Fact.block_exit ?_
 refine Fact.then_normal ?_
 have hl2 := HPRE.out.seg hsg2 (by rw [HYL.out]; omega)
 exact ⟨b - m, by have := HK.out; omega, m, b, lim, q1, q2, ys2, rfl, hlim, (hfit.seg hsg2).equal ham hmb (fun k hk hk2 => by (rcases hl2 with h0 | hp; (exact absurd h0 (by omega)); (have h9 := hp k hk hk2; rw [hsg2.out (by rw [HYL.out]; omega) (k := a - 1) (.inl (by omega)), show a - 1 = r from HR.out.symm, Hxd.out] at h9; rw [HPV.out, Hyd.out]; have := HXY.out; omega))) hle, hf, s0, s1, s2, s3, s8, s9, hsg.trans (hsg2.mono hA hbB), ha2, ho3.trans ho2⟩)))
 · (
 clear hf s0 s1 s2 s3 s8 s9 s10 s11
 clear ha ho
 rintro fr w7 ⟨hf, s0, s1, s2, s3, s8, s9, s10, s11, ha, ho⟩
 clear e1
 refine wp_seq_k (fun K33 hK33 => ?_)
 refine Fact.region ?_
 have b95 := hf.l 95 rfl
 have b96 := hf.l 96 rfl
 have b97 := hf.l 97 rfl
 have b98 := hf.l 98 rfl
 have b99 := hf.l 99 rfl
 have b94 := hf.l 94 rfl
 have b100 := hf.l 100 rfl
 have b101 := hf.l 101 rfl
 refine Fact.p rfl fun K hK => ?_
 go_simp
 refine hK.out _ _ ?_; clear hK K
 refine Fact.p rfl fun K hK => ?_
 go_simp
 refine hK.out _ _ ?_; clear hK K
 refine Fact.p rfl fun K hK => ?_
 go_simp
 refine hK.out _ _ ?_; clear hK K
 refine Fact.p rfl fun K hK => ?_
 go_simp
 refine hK.out _ _ ?_; clear hK K
 refine Fact.p rfl fun K hK => ?_
 go_simp
 go_at_call 87; refine (part_any ys g n c a b p w7 HYL.out hnl hap hpb (by omega) ha).mono ?_; rintro e w2 ⟨m, q, ys2, rfl, ham, hmb, hsg2, h1, h2, ha2, ho2⟩
 have e2 : IntKind.i64.wrap ((m : Int) - (a : Int)) = (m : Int) - (a : Int) := Fact.wrap_i64 (by omega) (by omega)
 have e3 : IntKind.i64.wrap ((b : Int) - (m : Int)) = (b : Int) - (m : Int) := Fact.wrap_i64 (by omega) (by omega)
 obtain ⟨l8, hl8⟩ : ∃ r : Nat, r = l / 8 := ⟨_, rfl⟩
 have e4 : (l : Int).tdiv 8 = (l8 : Int) := by rw [Int.tdiv_eq_ediv_of_nonneg (by omega)]; omega
 have e5 : IntKind.i64.wrap (l8 : Int) = (l8 : Int) := Fact.wrap_i64 (by omega) (by have := HL.out; omega)
 have e6 : IntKind.i64.wrap ((m : Int) + 1) = ((m + 1 : Nat) : Int) := by rw [Fact.wrap_i64 (by omega) (by omega)]; omega
 have HY2 := Lib.hid (show ys2.length = n by rw [hsg2.len]; exact HYL.out)
 have hfit2 := hfit.seg hsg2
 have H1 := Lib.hid h1; have H2 := Lib.hid h2; clear h1 h2 hl8
 have hlow2 := HPRE.out.seg hsg2 (by rw [HYL.out]; omega)
 have hsg3 := hsg.trans (hsg2.mono hA hbB)
 have ho3 := ho.trans ho2
 clear ha ho ho2 hfit hsg
 dsimp only
 refine hK.out _ _ ?_; clear hK K
 refine Fact.p rfl fun K hK => ?_
 go_simp
 refine hK.out _ _ ?_; clear hK K
 refine Fact.p rfl fun K hK => ?_
 go_simp
 refine hK.out _ _ ?_; clear hK K
 refine Fact.p rfl fun K hK => ?_
 go_simp
 refine hK.out _ _ ?_; clear hK K
 refine Fact.p rfl fun K hK => ?_
 go_simp
 refine hK.out _ _ ?_; clear hK K
 refine Fact.p rfl fun K hK => ?_
 go_simp
 refine hK.out _ _ ?_; clear hK K
 refine Fact.nil ?_
 refine Fact.q hf (by simp only [Fact.G]) rfl fun fr1 hf1 hT => ?_
 have hKp : _ ∧ _ ∧ _ ∧ _ ∧ _ ∧ _ ∧ _ ∧ _ ∧ _ ∧ _ ∧ _ ∧ _ ∧ _ ∧ _ ∧ _ ∧ _ ∧ _ ∧ _ := ⟨hT 0, hT 1, hT 2, hT 3, hT 8, hT 9, hT 10, hT 11, hT 14, hT 15, hT 94, hT 95, hT 96, hT 97, hT 98, hT 99, hT 100, hT 101⟩
 simp only [Fact.G, Nat.reduceEqDiff, Nat.reduceLT, hf.size, reduceIte, s0, s1, s2, s3, s8, s9, s10, s11] at hKp
 clear hT hf s0 s1 s2 s3 s8 s9 s10 s11 b95 b96 b97 b98 b99 b94 b100 b101
 obtain ⟨s0, s1, s2, s3, s8, s9, s10, s11, s14, s15, s94, s95, s96, s97, s98, s99, s100, s101⟩ := hKp
 have hf := hf1; clear hf1
 refine Fact.nx (hK33 _ _ ?_)
 refine wp_seq_k (fun K34 hK34 => ?_)
 refine Fact.region ?_
 have b102 := hf.l 102 rfl
 refine Fact.p rfl fun K hK => ?_
 go_simp
 refine hK.out _ _ ?_; clear hK K
 refine Fact.p rfl fun K hK => ?_
 go_simp
 refine hK.out _ _ ?_; clear hK K
 refine Fact.nil ?_
 refine Fact.q hf (by simp only [Fact.G]) rfl fun fr1 hf1 hT => ?_
 have hKp : _ ∧ _ ∧ _ ∧ _ ∧ _ ∧ _ ∧ _ ∧ _ ∧ _ ∧ _ ∧ _ ∧ _ ∧ _ ∧ _ ∧ _ ∧ _ ∧ _ ∧ _ ∧ _ := ⟨hT 0, hT 1, hT 2, hT 3, hT 8, hT 9, hT 10, hT 11, hT 14, hT 15, hT 94, hT 95, hT 96, hT 97, hT 98, hT 99, hT 100, hT 101, hT 102⟩
 simp only [Fact.G, Nat.reduceEqDiff, Nat.reduceLT, hf.size, reduceIte, s0, s1, s2, s3, s8, s10, s11, s14, s15, s94, s95, s96, s97, s98, s99, s100, s101] at hKp
 clear hT hf s0 s1 s2 s3 s8 s9 s10 s11 s14 s15 s94 s95 s96 s97 s98 s99 s100 s101 b102
 obtain ⟨s0, s1, s2, s3, s8, s9, s10, s11, s14, s15, s94, s95, s96, s97, s98, s99, s100, s101, s102⟩ := hKp
 have hf := hf1; clear hf1
 refine Fact.nx (hK34 _ _ ?_)
 refine wp_seq_k (fun K35 hK35 => ?_)
 refine Fact.region ?_
 have b103 := hf.l 103 rfl
 have b104 := hf.l 104 rfl
 have b105 := hf.l 105 rfl
 have b106 := hf.l 106 rfl
 have b107 := hf.l 107 rfl
 have b108 := hf.l 108 rfl
 refine Fact.p rfl fun K hK => ?_
 go_simp
 refine hK.out _ _ ?_; clear hK K
 refine Fact.p rfl fun K hK => ?_
 go_simp
 refine hK.out _ _ ?_; clear hK K
 refine Fact.p rfl fun K hK => ?_
 go_simp
 try simp (disch := omega) only [Fact.wrap_i64, Fact.wrap_u8, Fact.wrap_u32, Fact.wrap_u64]
 refine hK.out _ _ ?_; clear hK K
 refine Fact.p rfl fun K hK => ?_
 go_simp
 refine hK.out _ _ ?_; clear hK K
 refine Fact.p rfl fun K hK => ?_
 go_simp
 refine hK.out _ _ ?_; clear hK K
 refine Fact.p rfl fun K hK => ?_
 go_simp
 try simp (disch := omega) only [Fact.wrap_i64, Fact.wrap_u8, Fact.wrap_u32, Fact.wrap_u64]
 refine hK.out _ _ ?_; clear hK K
 refine Fact.p rfl fun K hK => ?_
 go_simp
 refine hK.out _ _ ?_; clear hK K
 refine Fact.p rfl fun K hK => ?_
 go_simp
 refine hK.out _ _ ?_; clear hK K
 refine Fact.nil ?_
 refine Fact.q hf (by simp only [Fact.G]) rfl fun fr1 hf1 hT => ?_
 have hKp : _ ∧ _ ∧ _ ∧ _ ∧ _ ∧ _ ∧ _ ∧ _ ∧ _ ∧ _ ∧ _ ∧ _ ∧ _ ∧ _ ∧ _ ∧ _ ∧ _ ∧ _ ∧ _ ∧ _ ∧ _ ∧ _ ∧ _ ∧ _ ∧ _ ∧ _ ∧ _ := ⟨hT 0, hT 1, hT 2, hT 3, hT 8, hT 9, hT 10, hT 11, hT 14, hT 15, hT 16, hT 17, hT 94, hT 95, hT 96, hT 97, hT 98, hT 99, hT 100, hT 101, hT 102, hT 103, hT 104, hT 105, hT 106, hT 107, hT 108⟩
 simp only [Fact.G, Nat.reduceEqDiff, Nat.reduceLT, hf.size, reduceIte, s0, s1, s2, s3, s8, s9, s10, s11, s14, s15, s94, s95, s96, s97, s98, s99, s100, s101, s102] at hKp
 clear hT hf s0 s1 s2 s3 s8 s9 s10 s11 s14 s15 s94 s95 s96 s97 s98 s99 s100 s101 s102 b103 b104 b105 b106 b107 b108
 obtain ⟨s0, s1, s2, s3, s8, s9, s10, s11, s14, s15, s16, s17, s94, s95, s96, s97, s98, s99, s100, s101, s102, s103, s104, s105, s106, s107, s108⟩ := hKp
 have hf := hf1; clear hf1
 refine Fact.nx (hK35 _ _ ?_)
 refine wp_seq_k (fun K36 hK36 => ?_)
 refine Fact.region ?_
 have b109 := hf.l 109 rfl
 have b110 := hf.l 110 rfl
 refine Fact.p rfl fun K hK => ?_
 go_simp
 refine hK.out _ _ ?_; clear hK K
 refine Fact.p rfl fun K hK => ?_
 go_simp
 refine hK.out _ _ ?_; clear hK K
 refine Fact.p rfl fun K hK => ?_
 go_simp
 refine hK.out _ _ ?_; clear hK K
 refine Fact.nil ?_
 refine Fact.q hf (by simp only [Fact.G]) rfl fun fr1 hf1 hT => ?_
 have hKp : _ ∧ _ ∧ _ ∧ _ ∧ _ ∧ _ ∧ _ ∧ _ ∧ _ ∧ _ ∧ _ ∧ _ ∧ _ ∧ _ ∧ _ ∧ _ ∧ _ ∧ _ ∧ _ ∧ _ ∧ _ ∧ _ ∧ _ ∧ _ ∧ _ ∧ _ ∧ _ ∧ _ ∧ _ ∧ _ := ⟨hT 0, hT 1, hT 2, hT 3, hT 8, hT 9, hT 10, hT 11, hT 14, hT 15, hT 16, hT 17, hT 18, hT 94, hT 95, hT 96, hT 97, hT 98, hT 99, hT 100, hT 101, hT 102, hT 103, hT 104, hT 105, hT 106, hT 107, hT 108, hT 109, hT 110⟩
 simp only [Fact.G, Nat.reduceEqDiff, Nat.reduceLT, hf.size, reduceIte, s0, s1, s2, s3, s8, s9, s10, s11, s14, s15, s16, s17, s94, s95, s96, s97, s98, s99, s100, s101, s102, s103, s104, s105, s106, s107, s108] at hKp
 clear hT hf s0 s1 s2 s3 s8 s9 s10 s11 s14 s15 s16 s17 s94 s95 s96 s97 s98 s99 s100 s101 s102 s103 s104 s105 s106 s107 s108 b109 b110
 obtain ⟨s0, s1, s2, s3, s8, s9, s10, s11, s14, s15, s16, s17, s18, s94, s95, s96, s97, s98, s99, s100, s101, s102, s103, s104, s105, s106, s107, s108, s109, s110⟩ := hKp
 have hf := hf1; clear hf1
 refine Fact.nx (hK36 _ _ ?_)
 by_cases hlr : (m : Int) - (a : Int) < (b : Int) - (m : Int)
 · (
 refine wp_seq_k (fun K37 hK37 => ?_)
 refine Fact.region ?_
 have b111 := hf.l 111 rfl
 have b112 := hf.l 112 rfl
 refine Fact.p rfl fun K hK => ?_
 go_simp
 refine hK.out _ _ ?_; clear hK K
 refine Fact.p rfl fun K hK => ?_
 go_simp
 refine hK.out _ _ ?_; clear hK K
 refine Fact.p rfl fun K hK => ?_
 go_simp
 refine hK.out _ _ ?_; clear hK K
 refine Fact.nil ?_
 refine Fact.q hf (by simp only [Fact.G]) rfl fun fr1 hf1 hT => ?_
 have hKp : _ ∧ _ ∧ _ ∧ _ ∧ _ ∧ _ ∧ _ ∧ _ ∧ _ ∧ _ ∧ _ ∧ _ ∧ _ ∧ _ ∧ _ ∧ _ ∧ _ ∧ _ ∧ _ ∧ _ ∧ _ ∧ _ ∧ _ ∧ _ ∧ _ ∧ _ ∧ _ ∧ _ ∧ _ ∧ _ ∧ _ ∧ _ ∧ _ := ⟨hT 0, hT 1, hT 2, hT 3, hT 8, hT 9, hT 10, hT 11, hT 14, hT 15, hT 16, hT 17, hT 18, hT 94, hT 95, hT 96, hT 97, hT 98, hT 99, hT 100, hT 101, hT 102, hT 103, hT 104, hT 105, hT 106, hT 107, hT 108, hT 109, hT 110, hT 111, hT 112, hT 113⟩
 simp only [Fact.G, Nat.reduceEqDiff, Nat.reduceLT, hf.size, reduceIte, s0, s1, s2, s3, s8, s9, s10, s11, s14, s15, s16, s17, s18, s94, s95, s96, s97, s98, s99, s100, s101, s102, s103, s104, s105, s106, s107, s108, s109, s110] at hKp
 clear hT hf s0 s1 s2 s3 s8 s9 s10 s11 s14 s15 s16 s17 s18 s94 s95 s96 s97 s98 s99 s100 s101 s102 s103 s104 s105 s106 s107 s108 s109 s110 b111 b112
 obtain ⟨s0, s1, s2, s3, s8, s9, s10, s11, s14, s15, s16, s17, s18, s94, s95, s96, s97, s98, s99, s100, s101, s102, s103, s104, s105, s106, s107, s108, s109, s110, s111, s112, s113⟩ := hKp
 have hf := hf1; clear hf1
 refine Fact.nx (hK37 _ _ ?_)
 refine Fact.cond_t s113 ?_
 refine wp_seq_k (fun K38 hK38 => ?_)
 refine Fact.region ?_
 have b114 := hf.l 114 rfl
 have b115 := hf.l 115 rfl
 have b116 := hf.l 116 rfl
 refine Fact.p rfl fun K hK => ?_
 go_simp
 refine hK.out _ _ ?_; clear hK K
 refine Fact.p rfl fun K hK => ?_
 go_simp
 refine hK.out _ _ ?_; clear hK K
 refine Fact.p rfl fun K hK => ?_
 go_simp
 refine hK.out _ _ ?_; clear hK K
 refine Fact.p rfl fun K hK => ?_
 go_simp
 refine hK.out _ _ ?_; clear hK K
 refine Fact.nil ?_
 refine Fact.q hf (by simp only [Fact.G]) rfl fun fr1 hf1 hT => ?_
 have hKp : _ ∧ _ ∧ _ ∧ _ ∧ _ ∧ _ ∧ _ ∧ _ ∧ _ ∧ _ ∧ _ ∧ _ ∧ _ ∧ _ ∧ _ ∧ _ ∧ _ ∧ _ ∧ _ ∧ _ ∧ _ ∧ _ ∧ _ ∧ _ ∧ _ ∧ _ ∧ _ ∧ _ ∧ _ ∧ _ ∧ _ ∧ _ ∧ _ ∧ _ ∧ _ ∧ _ := ⟨hT 0, hT 1, hT 2, hT 3, hT 8, hT 9, hT 10, hT 11, hT 14, hT 15, hT 16, hT 17, hT 18, hT 94, hT 95, hT 96, hT 97, hT 98, hT 99, hT 100, hT 101, hT 102, hT 103, hT 104, hT 105, hT 106, hT 107, hT 108, hT 109, hT 110, hT 111, hT 112, hT 113, hT 114, hT 115, hT 116⟩
 simp only [Fact.G, Nat.reduceEqDiff, Nat.reduceLT, hf.size, reduceIte, s0, s1, s2, s3, s9, s10, s11, s14, s15, s16, s17, s18, s94, s95, s96, s97, s98, s99, s100, s101, s102, s103, s104, s105, s106, s107, s108, s109, s110, s111, s112, s113] at hKp
 clear hT hf s0 s1 s2 s3 s8 s9 s10 s11 s14 s15 s16 s17 s18 s94 s95 s96 s97 s98 s99 s100 s101 s102 s103 s104 s105 s106 s107 s108 s109 s110 s111 s112 s113 b114 b115 b116
 obtain ⟨s0, s1, s2, s3, s8, s9, s10, s11, s14, s15, s16, s17, s18, s94, s95, s96, s97, s98, s99, s100, s101, s102, s103, s104, s105, s106, s107, s108, s109, s110, s111, s112, s113, s114, s115, s116⟩ := hKp
 have hf := hf1; clear hf1
 refine Fact.nx (hK38 _ _ ?_)
 refine wp_seq_k (fun K39 hK39 => ?_)
 refine Fact.region ?_
 have b117 := hf.l 117 rfl
 have b118 := hf.l 118 rfl
 have b119 := hf.l 119 rfl
 have b120 := hf.l 120 rfl
 refine Fact.p rfl fun K hK => ?_
 go_simp
 refine hK.out _ _ ?_; clear hK K
 refine Fact.p rfl fun K hK => ?_
 go_simp
 refine hK.out _ _ ?_; clear hK K
 refine Fact.p rfl fun K hK => ?_
 go_simp
 refine hK.out _ _ ?_; clear hK K
 refine Fact.p rfl fun K hK => ?_
 go_simp
 refine hK.out _ _ ?_; clear hK K
 refine Fact.p rfl fun K hK => ?_
 go_simp
 go_at_call 70; refine (IH.out (m - a) (by have := HKK.out; omega) ys2 a m lim w2 HY2.out rfl ham (by omega) hlim (hlow2.mono (by omega)) ha2).mono ?_; rintro e w8 ⟨rfl, ys3, hsg4, hso4, ha4, ho4⟩
 dsimp only
 refine hK.out _ _ ?_; clear hK K
 refine Fact.nil ?_
 refine Fact.q hf (by simp only [Fact.G]) rfl fun fr1 hf1 hT => ?_
 have hKp : _ ∧ _ ∧ _ ∧ _ ∧ _ ∧ _ ∧ _ ∧ _ ∧ _ ∧ _ ∧ _ ∧ _ ∧ _ ∧ _ ∧ _ ∧ _ ∧ _ ∧ _ ∧ _ ∧ _ ∧ _ ∧ _ ∧ _ ∧ _ ∧ _ ∧ _ ∧ _ ∧ _ ∧ _ ∧ _ ∧ _ ∧ _ ∧ _ ∧ _ ∧ _ ∧ _ ∧ _ ∧ _ ∧ _ ∧ _ := ⟨hT 0, hT 1, hT 2, hT 3, hT 8, hT 9, hT 10, hT 11, hT 14, hT 15, hT 16, hT 17, hT 18, hT 94, hT 95, hT 96, hT 97, hT 98, hT 99, hT 100, hT 101, hT 102, hT 103, hT 104, hT 105, hT 106, hT 107, hT 108, hT 109, hT 110, hT 111, hT 112, hT 113, hT 114, hT 115, hT 116, hT 117, hT 118, hT 119, hT 120⟩
 simp only [Fact.G, Nat.reduceEqDiff, Nat.reduceLT, hf.size, reduceIte, s0, s1, s2, s3, s8, s9, s10, s11, s14, s15, s16, s17, s18, s94, s95, s96, s97, s98, s99, s100, s101, s102, s103, s104, s105, s106, s107, s108, s109, s110, s111, s112, s113, s114, s115, s116] at hKp
 clear hT hf s0 s1 s2 s3 s8 s9 s10 s11 s14 s15 s16 s17 s18 s94 s95 s96 s97 s98 s99 s100 s101 s102 s103 s104 s105 s106 s107 s108 s109 s110 s111 s112 s113 s114 s115 s116 b117 b118 b119 b120
 obtain ⟨s0, s1, s2, s3, s8, s9, s10, s11, s14, s15, s16, s17, s18, s94, s95, s96, s97, s98, s99, s100, s101, s102, s103, s104, s105, s106, s107, s108, s109, s110, s111, s112, s113, s114, s115, s116, s117, s118, s119, s120⟩ := hKp
 have hf := hf1; clear hf1
 refine Fact.nx (hK39 _ _ ?_)
 refine Fact.region ?_
 have b122 := hf.l 122 rfl
 have b123 := hf.l 123 rfl
 refine Fact.p rfl fun K hK => ?_
 go_simp
 refine hK.out _ _ ?_; clear hK K
 refine Fact.p rfl fun K hK => ?_
 go_simp
 try simp (disch := omega) only [Fact.wrap_i64, Fact.wrap_u8, Fact.wrap_u32, Fact.wrap_u64]
 refine hK.out _ _ ?_; clear hK K
 refine Fact.p rfl fun K hK => ?_
 go_simp
 refine hK.out _ _ ?_; clear hK K
 refine Fact.nil ?_
 refine Fact.q hf (by simp only [Fact.G]) rfl fun fr1 hf1 hT => ?_
 have hKp : _ ∧ _ ∧ _ ∧ _ ∧ _ ∧ _ ∧ _ ∧ _ ∧ _ ∧ _ ∧ _ ∧ _ ∧ _ ∧ _ ∧ _ ∧ _ ∧ _ ∧ _ ∧ _ ∧ _ ∧ _ ∧ _ ∧ _ ∧ _ ∧ _ ∧ _ ∧ _ ∧ _ ∧ _ ∧ _ ∧ _ ∧ _ ∧ _ ∧ _ ∧ _ ∧ _ ∧ _ ∧ _ ∧ _ ∧ _ ∧ _ ∧ _ := ⟨hT 0, hT 1, hT 2, hT 3, hT 8, hT 9, hT 10, hT 11, hT 14, hT 15, hT 16, hT 17, hT 18, hT 94, hT 95, hT 96, hT 97, hT 98, hT 99, hT 100, hT 101, hT 102, hT 103, hT 104, hT 105, hT 106, hT 107, hT 108, hT 109, hT 110, hT 111, hT 112, hT 113, hT 114, hT 115, hT 116, hT 117, hT 118, hT 119, hT 120, hT 122, hT 123⟩
 simp only [Fact.G, Nat.reduceEqDiff, Nat.reduceLT, hf.size, reduceIte, s0, s2, s3, s8, s9, s10, s11, s14, s15, s16, s17, s18, s94, s95, s96, s97, s98, s99, s100, s101, s102, s103, s104, s105, s106, s107, s108, s109, s110, s111, s112, s113, s114, s115, s116, s117, s118, s119, s120] at hKp
 clear hT hf s0 s1 s2 s3 s8 s9 s10 s11 s14 s15 s16 s17 s18 s94 s95 s96 s97 s98 s99 s100 s101 s102 s103 s104 s105 s106 s107 s108 s109 s110 s111 s112 s113 s114 s115 s116 s117 s118 s119 s120 b122 b123
 obtain ⟨s0, s1, s2, s3, s8, s9, s10, s11, s14, s15, s16, s17, s18, s94, s95, s96, s97, s98, s99, s100, s101, s102, s103, s104, s105, s106, s107, s108, s109, s110, s111, s112, s113, s114, s115, s116, s117, s118, s119, s120, s122, s123⟩ := hKp
 have hf := hf1; clear hf1
 refine Fact.block_normal ?_
 refine Fact.then_normal ?_
 have hp := pivot_left hsg4 (by rw [HY2.out]; omega) hmb H1.out H2.out
 exact ⟨b - (m + 1), by have := HK.out; omega, m + 1, b, lim, _, q, ys3, rfl, hlim, (hfit2.seg (hsg4.mono (Nat.le_refl _) (by omega))).goRight ham hmb hso4 hp.1 hp.2, hf, s0, (by first | exact s1 | (rw [s1]; go_num)), s2, s3, s8, s9, hsg3.trans (hsg4.mono (by omega) (by omega)), ha4, ho3.trans ho4⟩)
 · (
 refine wp_seq_k (fun K40 hK40 => ?_)
 refine Fact.region ?_
 have b111 := hf.l 111 rfl
 have b112 := hf.l 112 rfl
 refine Fact.p rfl fun K hK => ?_
 go_simp
 refine hK.out _ _ ?_; clear hK K
 refine Fact.p rfl fun K hK => ?_
 go_simp
 refine hK.out _ _ ?_; clear hK K
 refine Fact.p rfl fun K hK => ?_
 go_simp
 refine hK.out _ _ ?_; clear hK K
 refine Fact.nil ?_
 refine Fact.q hf (by simp only [Fact.G]) rfl fun fr1 hf1 hT => ?_
 have hKp : _ ∧ _ ∧ _ ∧ _ ∧ _ ∧ _ ∧ _ ∧ _ ∧ _ ∧ _ ∧ _ ∧ _ ∧ _ ∧ _ ∧ _ ∧ _ ∧ _ ∧ _ ∧ _ ∧ _ ∧ _ ∧ _ ∧ _ ∧ _ ∧ _ ∧ _ ∧ _ ∧ _ ∧ _ ∧ _ ∧ _ ∧ _ ∧ _ := ⟨hT 0, hT 1, hT 2, hT 3, hT 8, hT 9, hT 10, hT 11, hT 14, hT 15, hT 16, hT 17, hT 18, hT 94, hT 95, hT 96, hT 97, hT 98, hT 99, hT 100, hT 101, hT 102, hT 103, hT 104, hT 105, hT 106, hT 107, hT 108, hT 109, hT 110, hT 111, hT 112, hT 113⟩
 simp only [Fact.G, Nat.reduceEqDiff, Nat.reduceLT, hf.size, reduceIte, s0, s1, s2, s3, s8, s9, s10, s11, s14, s15, s16, s17, s18, s94, s95, s96, s97, s98, s99, s100, s101, s102, s103, s104, s105, s106, s107, s108, s109, s110] at hKp
 clear hT hf s0 s1 s2 s3 s8 s9 s10 s11 s14 s15 s16 s17 s18 s94 s95 s96 s97 s98 s99 s100 s101 s102 s103 s104 s105 s106 s107 s108 s109 s110 b111 b112
 obtain ⟨s0, s1, s2, s3, s8, s9, s10, s11, s14, s15, s16, s17, s18, s94, s95, s96, s97, s98, s99, s100, s101, s102, s103, s104, s105, s106, s107, s108, s109, s110, s111, s112, s113⟩ := hKp
 have hf := hf1; clear hf1
 refine Fact.nx (hK40 _ _ ?_)
 refine Fact.cond_f s113 ?_
 refine wp_seq_k (fun K41 hK41 => ?_)
 refine Fact.region ?_
 have b124 := hf.l 124 rfl
 have b125 := hf.l 125 rfl
 have b126 := hf.l 126 rfl
 refine Fact.p rfl fun K hK => ?_
 go_simp
 refine hK.out _ _ ?_; clear hK K
 refine Fact.p rfl fun K hK => ?_
 go_simp
 refine hK.out _ _ ?_; clear hK K
 refine Fact.p rfl fun K hK => ?_
 go_simp
 refine hK.out _ _ ?_; clear hK K
 refine Fact.p rfl fun K hK => ?_
 go_simp
 refine hK.out _ _ ?_; clear hK K
 refine Fact.nil ?_
 refine Fact.q hf (by simp only [Fact.G]) rfl fun fr1 hf1 hT => ?_
 have hKp : _ ∧ _ ∧ _ ∧ _ ∧ _ ∧ _ ∧ _ ∧ _ ∧ _ ∧ _ ∧ _ ∧ _ ∧ _ ∧ _ ∧ _ ∧ _ ∧ _ ∧ _ ∧ _ ∧ _ ∧ _ ∧ _ ∧ _ ∧ _ ∧ _ ∧ _ ∧ _ ∧ _ ∧ _ ∧ _ ∧ _ ∧ _ ∧ _ ∧ _ ∧ _ ∧ _ := ⟨hT 0, hT 1, hT 2, hT 3, hT 8, hT 9, hT 10, hT 11, hT 14, hT 15, hT 16, hT 17, hT 18, hT 94, hT 95, hT 96, hT 97, hT 98, hT 99, hT 100, hT 101, hT 102, hT 103, hT 104, hT 105, hT 106, hT 107, hT 108, hT 109, hT 110, hT 111, hT 112, hT 113, hT 124, hT 125, hT 126⟩
 simp only [Fact.G, Nat.reduceEqDiff, Nat.reduceLT, hf.size, reduceIte, s0, s1, s2, s3, s9, s10, s11, s14, s15, s16, s17, s18, s94, s95, s96, s97, s98, s99, s100, s101, s102, s103, s104, s105, s106, s107, s108, s109, s110, s111, s112, s113] at hKp
 clear hT hf s0 s1 s2 s3 s8 s9 s10 s11 s14 s15 s16 s17 s18 s94 s95 s96 s97 s98 s99 s100 s101 s102 s103 s104 s105 s106 s107 s108 s109 s110 s111 s112 s113 b124 b125 b126
 obtain ⟨s0, s1, s2, s3, s8, s9, s10, s11, s14, s15, s16, s17, s18, s94, s95, s96, s97, s98, s99, s100, s101, s102, s103, s104, s105, s106, s107, s108, s109, s110, s111, s112, s113, s124, s125, s126⟩ := hKp
 have hf := hf1; clear hf1
 refine Fact.nx (hK41 _ _ ?_)
 refine wp_seq_k (fun K42 hK42 => ?_)
 refine Fact.region ?_
 have b127 := hf.l 127 rfl
 have b128 := hf.l 128 rfl
 have b129 := hf.l 129 rfl
 have b130 := hf.l 130 rfl
 have b131 := hf.l 131 rfl
 refine Fact.p rfl fun K hK => ?_
 go_simp
 refine hK.out _ _ ?_; clear hK K
 refine Fact.p rfl fun K hK => ?_
 go_simp
 refine hK.out _ _ ?_; clear hK K
 refine Fact.p rfl fun K hK => ?_
 go_simp
 try simp (disch := omega) only [Fact.wrap_i64, Fact.wrap_u8, Fact.wrap_u32, Fact.wrap_u64]
 refine hK.out _ _ ?_; clear hK K
 refine Fact.p rfl fun K hK => ?_
 go_simp
 refine hK.out _ _ ?_; clear hK K
 refine Fact.p rfl fun K hK => ?_
 go_simp
 refine hK.out _ _ ?_; clear hK K
 refine Fact.p rfl fun K hK => ?_
 go_simp
 go_at_call 70; refine (IH.out (b - (m + 1)) (by have := HKK.out; omega) ys2 (m + 1) b lim w2 HY2.out rfl (by omega) (by omega) hlim (.inr (fun k hk hk2 => H2.out k (by omega) hk2)) ha2).mono ?_; rintro e w8 ⟨rfl, ys3, hsg4, hso4, ha4, ho4⟩
 dsimp only
 refine hK.out _ _ ?_; clear hK K
 refine Fact.nil ?_
 refine Fact.q hf (by simp only [Fact.G]) rfl fun fr1 hf1 hT => ?_
 have hKp : _ ∧ _ ∧ _ ∧ _ ∧ _ ∧ _ ∧ _ ∧ _ ∧ _ ∧ _ ∧ _ ∧ _ ∧ _ ∧ _ ∧ _ ∧ _ ∧ _ ∧ _ ∧ _ ∧ _ ∧ _ ∧ _ ∧ _ ∧ _ ∧ _ ∧ _ ∧ _ ∧ _ ∧ _ ∧ _ ∧ _ ∧ _ ∧ _ ∧ _ ∧ _ ∧ _ ∧ _ ∧ _ ∧ _ ∧ _ ∧ _ := ⟨hT 0, hT 1, hT 2, hT 3, hT 8, hT 9, hT 10, hT 11, hT 14, hT 15, hT 16, hT 17, hT 18, hT 94, hT 95, hT 96, hT 97, hT 98, hT 99, hT 100, hT 101, hT 102, hT 103, hT 104, hT 105, hT 106, hT 107, hT 108, hT 109, hT 110, hT 111, hT 112, hT 113, hT 124, hT 125, hT 126, hT 127, hT 128, hT 129, hT 130, hT 131⟩
 simp only [Fact.G, Nat.reduceEqDiff, Nat.reduceLT, hf.size, reduceIte, s0, s1, s2, s3, s8, s9, s10, s11, s14, s15, s16, s17, s18, s94, s95, s96, s97, s98, s99, s100, s101, s102, s103, s104, s105, s106, s107, s108, s109, s110, s111, s112, s113, s124, s125, s126] at hKp
 clear hT hf s0 s1 s2 s3 s8 s9 s10 s11 s14 s15 s16 s17 s18 s94 s95 s96 s97 s98 s99 s100 s101 s102 s103 s104 s105 s106 s107 s108 s109 s110 s111 s112 s113 s124 s125 s126 b127 b128 b129 b130 b131
 obtain ⟨s0, s1, s2, s3, s8, s9, s10, s11, s14, s15, s16, s17, s18, s94, s95, s96, s97, s98, s99, s100, s101, s102, s103, s104, s105, s106, s107, s108, s109, s110, s111, s112, s113, s124, s125, s126, s127, s128, s129, s130, s131⟩ := hKp
 have hf := hf1; clear hf1
 refine Fact.nx (hK42 _ _ ?_)
 refine Fact.region ?_
 have b133 := hf.l 133 rfl
 refine Fact.p rfl fun K hK => ?_
 go_simp
 refine hK.out _ _ ?_; clear hK K
 refine Fact.p rfl fun K hK => ?_
 go_simp
 refine hK.out _ _ ?_; clear hK K
 refine Fact.nil ?_
 refine Fact.q hf (by simp only [Fact.G]) rfl fun fr1 hf1 hT => ?_
 have hKp : _ ∧ _ ∧ _ ∧ _ ∧ _ ∧ _ ∧ _ ∧ _ ∧ _ ∧ _ ∧ _ ∧ _ ∧ _ ∧ _ ∧ _ ∧ _ ∧ _ ∧ _ ∧ _ ∧ _ ∧ _ ∧ _ ∧ _ ∧ _ ∧ _ ∧ _ ∧ _ ∧ _ ∧ _ ∧ _ ∧ _ ∧ _ ∧ _ ∧ _ ∧ _ ∧ _ ∧ _ ∧ _ ∧ _ ∧ _ ∧ _ ∧ _ := ⟨hT 0, hT 1, hT 2, hT 3, hT 8, hT 9, hT 10, hT 11, hT 14, hT 15, hT 16, hT 17, hT 18, hT 94, hT 95, hT 96, hT 97, hT 98, hT 99, hT 100, hT 101, hT 102, hT 103, hT 104, hT 105, hT 106, hT 107, hT 108, hT 109, hT 110, hT 111, hT 112, hT 113, hT 124, hT 125, hT 126, hT 127, hT 128, hT 129, hT 130, hT 131, hT 133⟩
 simp only [Fact.G, Nat.reduceEqDiff, Nat.reduceLT, hf.size, reduceIte, s0, s1, s3, s8, s9, s10, s11, s14, s15, s16, s17, s18, s94, s95, s96, s97, s98, s99, s100, s101, s102, s103, s104, s105, s106, s107, s108, s109, s110, s111, s112, s113, s124, s125, s126, s127, s128, s129, s130, s131] at hKp
 clear hT hf s0 s1 s2 s3 s8 s9 s10 s11 s14 s15 s16 s17 s18 s94 s95 s96 s97 s98 s99 s100 s101 s102 s103 s104 s105 s106 s107 s108 s109 s110 s111 s112 s113 s124 s125 s126 s127 s128 s129 s130 s131 b133
 obtain ⟨s0, s1, s2, s3, s8, s9, s10, s11, s14, s15, s16, s17, s18, s94, s95, s96, s97, s98, s99, s100, s101, s102, s103, s104, s105, s106, s107, s108, s109, s110, s111, s112, s113, s124, s125, s126, s127, s128, s129, s130, s131, s133⟩ := hKp
 have hf := hf1; clear hf1
 refine Fact.block_normal ?_
 refine Fact.then_normal ?_
 have hp := pivot_right hsg4 (by rw [HY2.out]; omega) hmb H1.out H2.out
 exact ⟨m - a, by have := HK.out; omega, a, m, lim, _, q, ys3, rfl, hlim, (hfit2.seg (hsg4.mono (by omega) (Nat.le_refl _))).goLeft ham hmb hso4 hp.1 hp.2, hf, s0, s1, s2, s3, s8, s9, hsg3.trans (hsg4.mono (by omega) (by omega)), ha4, ho3.trans ho4⟩))))))))
end Sb
end Go.Proofs.Ytfgfichkcckhiaa
