/- Lev: the document: Table of an empty text, Of, Behind, Row, Start, Step, Read. -/
import Derived.Test.YtfgfichkcckhiaaLRefQ
namespace Go.Proofs.Ytfgfichkcckhiaa
open Go.RowKit
set_option linter.unusedSimpArgs false
set_option linter.unusedVariables false
set_option linter.unnecessarySimpa false
namespace Lv
theorem behind_rd {w : World} {base : Nat} {v : Value} {n : Nat} (h : OI w base v (List.range (n + 1))) : Rd w v (n + 1) (fun i => i) := by
  have h2 := OI.reads (r := fun i => i) h (by simp) (fun i hi => by simp at hi; simp [hi])
  rwa [List.length_range] at h2
theorem set_cell3 {w : World} {g : Nat} {x u : Value} (h : w.heap[g]? = some (.cells #[x] 3 (0, 0))) : (w.setCell ⟨g, 0, none⟩ u).heap[g]? = some (.cells #[u] 3 (0, 0)) := by
  simp [World.setCell, Array.getElem?_modify, h]
set_option maxHeartbeats 4000000 in
set_option maxRecDepth 100000 in
theorem table78 (a : ByteArray) (ha : a.size ≤ 900) (w : World) : Calls Try.prog 78 #[.string a, .string ⟨#[]⟩] w fun e w1 => ∃ v, e = .returned v ∧ OT w1 w.heap.size v (a.size + 1) ∧ Below w.heap.size w w1 := by
 refine calls_of_wp Try.func78 rfl ?_
 refine Fact.enter (n := 93) (by kernel_rfl) (fun fr hf hT => ?_)
 have s0 := hT 0 _ rfl
 have s1 := hT 1 _ rfl
 clear hT
 refine wp_seq_k (fun K1 hK1 => ?_)
 refine Fact.region ?_
 refine Fact.p rfl fun K hK => ?_
 go_simp
 refine hK.out _ _ ?_; clear hK K
 refine Fact.nil ?_
 refine Fact.q hf (by simp only [Fact.G]) rfl fun fr1 hf1 hT => ?_
 have hKp : _ ∧ _ ∧ _ := ⟨hT 0, hT 1, hT 4⟩
 simp only [Fact.G, Nat.reduceEqDiff, Nat.reduceLT, hf.size, reduceIte, s0, s1] at hKp
 clear hT hf s0 s1
 obtain ⟨s0, s1, s4⟩ := hKp
 have hf := hf1; clear hf1
 refine Fact.nx (hK1 _ _ ?_)
 refine wp_seq_k (fun K2 hK2 => ?_)
 refine Fact.region ?_
 refine Fact.p rfl fun K hK => ?_
 go_simp
 refine hK.out _ _ ?_; clear hK K
 refine Fact.nil ?_
 refine Fact.q hf (by simp only [Fact.G]) rfl fun fr1 hf1 hT => ?_
 have hKp : _ ∧ _ ∧ _ ∧ _ := ⟨hT 0, hT 1, hT 4, hT 5⟩
 simp only [Fact.G, Nat.reduceEqDiff, Nat.reduceLT, hf.size, reduceIte, s0, s1, s4] at hKp
 clear hT hf s0 s1 s4
 obtain ⟨s0, s1, s4, s5⟩ := hKp
 have hf := hf1; clear hf1
 refine Fact.nx (hK2 _ _ ?_)
 refine wp_seq_k (fun K3 hK3 => ?_)
 refine wp_seq_k (fun K4 hK4 => ?_)
 refine Fact.region ?_
 refine Fact.p rfl fun K hK => ?_
 go_simp
 refine hK.out _ _ ?_; clear hK K
 refine Fact.nil ?_
 refine Fact.q hf (by simp only [Fact.G]) rfl fun fr1 hf1 hT => ?_
 have hKp : _ ∧ _ ∧ _ ∧ _ ∧ _ := ⟨hT 0, hT 1, hT 4, hT 5, hT 6⟩
 simp only [Fact.G, Nat.reduceEqDiff, Nat.reduceLT, hf.size, reduceIte, s0, s1, s4, s5] at hKp
 clear hT hf s0 s1 s4 s5
 obtain ⟨s0, s1, s4, s5, s6⟩ := hKp
 have hf := hf1; clear hf1
 refine Fact.nx (hK4 _ _ ?_)
 refine wp_block ?_
 refine wp_loop_ghost (fun gk fr wr => ∃ (i : Nat) (v : Value), gk = a.size + 1 - i ∧ i ≤ a.size + 1 ∧ Fact.Fr 93 fr ∧ fr.tmps[0]? = some (.string a) ∧ fr.tmps[1]? = some (.string ⟨#[]⟩) ∧ fr.tmps[5]? = some v ∧ fr.tmps[6]? = some (.int .i64 i) ∧ OT wr w.heap.size v i ∧ Below w.heap.size w wr) (a.size + 1) ?_ ?_
 · (
 exact ⟨0, _, rfl, Nat.zero_le _, hf, s0, s1, s5, s6, OT.nil _ _, Below.refl _ _⟩)
 · (
 clear hf s0 s1 s4 s5 s6
 rintro gk fr wr ⟨i, v, hk, hi, hf, s0, s1, s5, s6, ho, hb⟩
 have HK := Lib.hid hk; clear hk
 refine wp_seq_k (fun K5 hK5 => ?_)
 refine wp_seq_k (fun K6 hK6 => ?_)
 refine Fact.region ?_
 have b9 := hf.l 9 rfl
 have b10 := hf.l 10 rfl
 have b11 := hf.l 11 rfl
 refine Fact.p rfl fun K hK => ?_
 go_simp
 refine hK.out _ _ ?_; clear hK K
 refine Fact.p rfl fun K hK => ?_
 go_simp
 refine hK.out _ _ ?_; clear hK K
 refine Fact.p rfl fun K hK => ?_
 go_simp
 refine hK.out _ _ ?_; clear hK K
 refine Fact.p rfl fun K hK => ?_
 go_simp
 refine hK.out _ _ ?_; clear hK K
 refine Fact.nil ?_
 refine Fact.q hf (by simp only [Fact.G]) rfl fun fr1 hf1 hT => ?_
 have hKp : _ ∧ _ ∧ _ ∧ _ ∧ _ ∧ _ ∧ _ ∧ _ := ⟨hT 0, hT 1, hT 5, hT 6, hT 9, hT 10, hT 11, hT 12⟩
 simp only [Fact.G, Nat.reduceEqDiff, Nat.reduceLT, hf.size, reduceIte, s0, s1, s5, s6] at hKp
 clear hT hf s0 s1 s5 s6 b9 b10 b11
 obtain ⟨s0, s1, s5, s6, s9, s10, s11, s12⟩ := hKp
 have hf := hf1; clear hf1
 refine Fact.nx (hK6 _ _ ?_)
 refine Fact.cond_s s12 (fun hq => ?_) (fun hq => ?_)
 · (
 have hle : i ≤ a.size := by have h9 := of_decide_eq_true hq; omega
 have hmk := make1 wr
 refine wp_skip ?_
 refine Fact.nx (hK5 _ _ ?_)
 refine wp_seq_k (fun K7 hK7 => ?_)
 refine wp_block ?_
 refine wp_seq_k (fun K8 hK8 => ?_)
 refine Fact.region ?_
 have b15 := hf.l 15 rfl
 have b16 := hf.l 16 rfl
 have b17 := hf.l 17 rfl
 have b18 := hf.l 18 rfl
 refine Fact.p rfl fun K hK => ?_
 go_simp
 refine hK.out _ _ ?_; clear hK K
 refine Fact.p rfl fun K hK => ?_
 go_simp
 refine hK.out _ _ ?_; clear hK K
 refine Fact.p rfl fun K hK => ?_
 go_simp
 try simp (disch := omega) only [Fact.wrap_i64, Fact.wrap_u8, Fact.wrap_u32, Fact.wrap_u64]
 refine hK.out _ _ ?_; clear hK K
 refine Fact.p rfl fun K hK => ?_
 go_simp
 refine hK.out _ _ ?_; clear hK K
 refine Fact.p rfl fun K hK => ?_
 go_simp
 refine hK.out _ _ ?_; clear hK K
 refine Fact.nil ?_
 refine Fact.q hf (by simp only [Fact.G]) rfl fun fr1 hf1 hT => ?_
 have hKp : _ ∧ _ ∧ _ ∧ _ ∧ _ ∧ _ ∧ _ ∧ _ ∧ _ ∧ _ ∧ _ ∧ _ ∧ _ := ⟨hT 0, hT 1, hT 5, hT 6, hT 7, hT 9, hT 10, hT 11, hT 12, hT 15, hT 16, hT 17, hT 18⟩
 simp only [Fact.G, Nat.reduceEqDiff, Nat.reduceLT, hf.size, reduceIte, s0, s1, s5, s6, s9, s10, s11, s12] at hKp
 clear hT hf s0 s1 s5 s6 s9 s10 s11 s12 b15 b16 b17 b18
 obtain ⟨s0, s1, s5, s6, s7, s9, s10, s11, s12, s15, s16, s17, s18⟩ := hKp
 have hf := hf1; clear hf1
 refine Fact.nx (hK8 _ _ ?_)
 obtain ⟨W1, hW1⟩ : ∃ W1, wr.alloc (.cells #[.int .i64 0] 3) = W1 := ⟨_, rfl⟩
 have hb1 : Below wr.heap.size wr W1 := by rw [← hW1]; exact (Below.refl _ _).alloc (Nat.le_refl _) _
 have hg1 : W1.heap[wr.heap.size]? = some (.cells #[.int .i64 0] 3 (0, 0)) := by rw [← hW1]; exact heap_alloc_new wr _
 try rw [hW1]
 clear hW1 hmk
 refine wp_seq_k (fun K9 hK9 => ?_)
 refine wp_seq_k (fun K10 hK10 => ?_)
 refine Fact.region ?_
 refine Fact.p rfl fun K hK => ?_
 go_simp
 refine hK.out _ _ ?_; clear hK K
 refine Fact.nil ?_
 refine Fact.q hf (by simp only [Fact.G]) rfl fun fr1 hf1 hT => ?_
 have hKp : _ ∧ _ ∧ _ ∧ _ ∧ _ ∧ _ ∧ _ ∧ _ ∧ _ ∧ _ ∧ _ ∧ _ ∧ _ ∧ _ := ⟨hT 0, hT 1, hT 5, hT 6, hT 7, hT 8, hT 9, hT 10, hT 11, hT 12, hT 15, hT 16, hT 17, hT 18⟩
 simp only [Fact.G, Nat.reduceEqDiff, Nat.reduceLT, hf.size, reduceIte, s0, s1, s5, s6, s7, s9, s10, s11, s12, s15, s16, s17, s18] at hKp
 clear hT hf s0 s1 s5 s6 s7 s9 s10 s11 s12 s15 s16 s17 s18
 obtain ⟨s0, s1, s5, s6, s7, s8, s9, s10, s11, s12, s15, s16, s17, s18⟩ := hKp
 have hf := hf1; clear hf1
 refine Fact.nx (hK10 _ _ ?_)
 refine wp_block ?_
 refine wp_loop_ghost (fun g2 fr wr2 => ∃ (n : Nat) (x : Int), g2 = 1 - n ∧ n ≤ 1 ∧ (n = 1 → x = (i : Int)) ∧ Fact.Fr 93 fr ∧ fr.tmps[0]? = some (.string a) ∧ fr.tmps[1]? = some (.string ⟨#[]⟩) ∧ fr.tmps[5]? = some v ∧ fr.tmps[6]? = some (.int .i64 i) ∧ fr.tmps[7]? = some (.slice (some ⟨wr.heap.size, 0, none⟩) 1 1) ∧ fr.tmps[8]? = some (.int .i64 n) ∧ wr2.heap[wr.heap.size]? = some (.cells #[.int .i64 x] 3 (0, 0)) ∧ Below wr.heap.size wr wr2) (1) ?_ ?_
 · (
 exact ⟨0, 0, rfl, Nat.zero_le _, fun h => absurd h (by omega), hf, s0, s1, s5, s6, s7, s8, hg1, hb1⟩)
 · (
 clear hf s0 s1 s5 s6 s7 s8 s9 s10 s11 s12 s15 s16 s17 s18
 rintro g2 fr wr2 ⟨n, x, hk2, hn, hx1, hf, s0, s1, s5, s6, s7, s8, hg, hb2⟩
 have HK2 := Lib.hid hk2; have HX := Lib.hid hx1; clear hk2 hx1
 have cg := cell_of_row wr2 wr.heap.size 0 _ 3 (0, 0) hg; simp only [List.getElem?_toArray, List.getElem?_cons_zero] at cg
 have fg : wr2.frozen? ⟨wr.heap.size, 0, none⟩ = false := by simp [World.frozen?, hg]
 refine wp_seq_k (fun K11 hK11 => ?_)
 refine wp_seq_k (fun K12 hK12 => ?_)
 refine Fact.region ?_
 have b19 := hf.l 19 rfl
 have b20 := hf.l 20 rfl
 have b21 := hf.l 21 rfl
 refine Fact.p rfl fun K hK => ?_
 go_simp
 refine hK.out _ _ ?_; clear hK K
 refine Fact.p rfl fun K hK => ?_
 go_simp
 refine hK.out _ _ ?_; clear hK K
 refine Fact.p rfl fun K hK => ?_
 go_simp
 refine hK.out _ _ ?_; clear hK K
 refine Fact.p rfl fun K hK => ?_
 go_simp
 refine hK.out _ _ ?_; clear hK K
 refine Fact.nil ?_
 refine Fact.q hf (by simp only [Fact.G]) rfl fun fr1 hf1 hT => ?_
 have hKp : _ ∧ _ ∧ _ ∧ _ ∧ _ ∧ _ ∧ _ ∧ _ ∧ _ ∧ _ := ⟨hT 0, hT 1, hT 5, hT 6, hT 7, hT 8, hT 19, hT 20, hT 21, hT 22⟩
 simp only [Fact.G, Nat.reduceEqDiff, Nat.reduceLT, hf.size, reduceIte, s0, s1, s5, s6, s7, s8] at hKp
 clear hT hf s0 s1 s5 s6 s7 s8 b19 b20 b21
 obtain ⟨s0, s1, s5, s6, s7, s8, s19, s20, s21, s22⟩ := hKp
 have hf := hf1; clear hf1
 refine Fact.nx (hK12 _ _ ?_)
 refine Fact.cond_s s22 (fun hq2 => ?_) (fun hq2 => ?_)
 · (
 have hn0 : n = 0 := by have h9 := of_decide_eq_true hq2; first | omega | (simp at h9; omega)
 subst hn0
 rcases hi0 : i with _ | i2
 · (
 subst hi0
 refine wp_skip ?_
 refine Fact.nx (hK11 _ _ ?_)
 refine wp_seq_k (fun K13 hK13 => ?_)
 refine wp_block ?_
 refine wp_block ?_
 refine wp_seq_k (fun K14 hK14 => ?_)
 refine Fact.region ?_
 have b53 := hf.l 53 rfl
 have b54 := hf.l 54 rfl
 refine Fact.p rfl fun K hK => ?_
 go_simp
 refine hK.out _ _ ?_; clear hK K
 refine Fact.p rfl fun K hK => ?_
 go_simp
 refine hK.out _ _ ?_; clear hK K
 refine Fact.p rfl fun K hK => ?_
 go_simp
 refine hK.out _ _ ?_; clear hK K
 refine Fact.nil ?_
 refine Fact.q hf (by simp only [Fact.G]) rfl fun fr1 hf1 hT => ?_
 have hKp : _ ∧ _ ∧ _ ∧ _ ∧ _ ∧ _ ∧ _ ∧ _ ∧ _ ∧ _ ∧ _ ∧ _ ∧ _ := ⟨hT 0, hT 1, hT 5, hT 6, hT 7, hT 8, hT 19, hT 20, hT 21, hT 22, hT 52, hT 53, hT 54⟩
 simp only [Fact.G, Nat.reduceEqDiff, Nat.reduceLT, hf.size, reduceIte, s0, s1, s5, s6, s7, s8, s19, s20, s21, s22] at hKp
 clear hT hf s0 s1 s5 s6 s7 s8 s19 s20 s21 s22 b53 b54
 obtain ⟨s0, s1, s5, s6, s7, s8, s19, s20, s21, s22, s52, s53, s54⟩ := hKp
 have hf := hf1; clear hf1
 refine Fact.nx (hK14 _ _ ?_)
 try simp at s52
 refine Fact.cond_t s52 ?_
 refine Fact.region ?_
 have b55 := hf.l 55 rfl
 have b56 := hf.l 56 rfl
 have b57 := hf.l 57 rfl
 have b58 := hf.l 58 rfl
 refine Fact.p rfl fun K hK => ?_
 go_simp
 refine hK.out _ _ ?_; clear hK K
 refine Fact.p rfl fun K hK => ?_
 go_simp
 refine hK.out _ _ ?_; clear hK K
 refine Fact.p rfl fun K hK => ?_
 go_simp
 refine hK.out _ _ ?_; clear hK K
 refine Fact.p rfl fun K hK => ?_
 go_simp
 refine hK.out _ _ ?_; clear hK K
 refine Fact.p rfl fun K hK => ?_
 go_simp
 refine hK.out _ _ ?_; clear hK K
 refine Fact.nil ?_
 refine Fact.q hf (by simp only [Fact.G]) rfl fun fr1 hf1 hT => ?_
 have hKp : _ ∧ _ ∧ _ ∧ _ ∧ _ ∧ _ ∧ _ ∧ _ ∧ _ ∧ _ ∧ _ ∧ _ ∧ _ ∧ _ ∧ _ ∧ _ ∧ _ := ⟨hT 0, hT 1, hT 5, hT 6, hT 7, hT 8, hT 19, hT 20, hT 21, hT 22, hT 52, hT 53, hT 54, hT 55, hT 56, hT 57, hT 58⟩
 simp only [Fact.G, Nat.reduceEqDiff, Nat.reduceLT, hf.size, reduceIte, s0, s1, s5, s6, s7, s8, s19, s20, s21, s22, s52, s53, s54] at hKp
 clear hT hf s0 s1 s5 s6 s7 s8 s19 s20 s21 s22 s52 s53 s54 b55 b56 b57 b58
 obtain ⟨s0, s1, s5, s6, s7, s8, s19, s20, s21, s22, s52, s53, s54, s55, s56, s57, s58⟩ := hKp
 have hf := hf1; clear hf1
 refine Fact.block_normal ?_
 refine Fact.block_normal ?_
 refine Fact.nx (hK13 _ _ ?_)
 refine Fact.region ?_
 have b23 := hf.l 23 rfl
 have b24 := hf.l 24 rfl
 refine Fact.p rfl fun K hK => ?_
 go_simp
 refine hK.out _ _ ?_; clear hK K
 refine Fact.p rfl fun K hK => ?_
 go_simp
 try simp (disch := omega) only [Fact.wrap_i64, Fact.wrap_u8, Fact.wrap_u32, Fact.wrap_u64]
 refine hK.out _ _ ?_; clear hK K
 refine Fact.p rfl fun K hK => ?_
 go_simp
 refine hK.out _ _ ?_; clear hK K
 refine Fact.nil ?_
 refine Fact.q hf (by simp only [Fact.G]) rfl fun fr1 hf1 hT => ?_
 have hKp : _ ∧ _ ∧ _ ∧ _ ∧ _ ∧ _ ∧ _ ∧ _ ∧ _ ∧ _ ∧ _ ∧ _ ∧ _ ∧ _ ∧ _ ∧ _ ∧ _ ∧ _ ∧ _ := ⟨hT 0, hT 1, hT 5, hT 6, hT 7, hT 8, hT 19, hT 20, hT 21, hT 22, hT 23, hT 24, hT 52, hT 53, hT 54, hT 55, hT 56, hT 57, hT 58⟩
 simp only [Fact.G, Nat.reduceEqDiff, Nat.reduceLT, hf.size, reduceIte, s0, s1, s5, s6, s7, s19, s20, s21, s22, s52, s53, s54, s55, s56, s57, s58] at hKp
 clear hT hf s0 s1 s5 s6 s7 s8 s19 s20 s21 s22 s52 s53 s54 s55 s56 s57 s58 b23 b24
 obtain ⟨s0, s1, s5, s6, s7, s8, s19, s20, s21, s22, s23, s24, s52, s53, s54, s55, s56, s57, s58⟩ := hKp
 have hf := hf1; clear hf1
 refine Fact.then_normal ?_
 exact ⟨_, by have := HK2.out; omega, 1, _, rfl, Nat.le_refl _, fun _ => rfl, hf, s0, s1, s5, s6, s7, s8, set_cell3 hg, hb2.setCell (Nat.le_refl _) _⟩)
 · (
 subst hi0
 refine wp_skip ?_
 refine Fact.nx (hK11 _ _ ?_)
 refine wp_seq_k (fun K15 hK15 => ?_)
 refine wp_block ?_
 refine wp_block ?_
 refine wp_seq_k (fun K16 hK16 => ?_)
 refine Fact.region ?_
 have b53 := hf.l 53 rfl
 have b54 := hf.l 54 rfl
 refine Fact.p rfl fun K hK => ?_
 go_simp
 refine hK.out _ _ ?_; clear hK K
 refine Fact.p rfl fun K hK => ?_
 go_simp
 refine hK.out _ _ ?_; clear hK K
 refine Fact.p rfl fun K hK => ?_
 go_simp
 refine hK.out _ _ ?_; clear hK K
 refine Fact.nil ?_
 refine Fact.q hf (by simp only [Fact.G]) rfl fun fr1 hf1 hT => ?_
 have hKp : _ ∧ _ ∧ _ ∧ _ ∧ _ ∧ _ ∧ _ ∧ _ ∧ _ ∧ _ ∧ _ ∧ _ ∧ _ := ⟨hT 0, hT 1, hT 5, hT 6, hT 7, hT 8, hT 19, hT 20, hT 21, hT 22, hT 52, hT 53, hT 54⟩
 simp only [Fact.G, Nat.reduceEqDiff, Nat.reduceLT, hf.size, reduceIte, s0, s1, s5, s6, s7, s8, s19, s20, s21, s22] at hKp
 clear hT hf s0 s1 s5 s6 s7 s8 s19 s20 s21 s22 b53 b54
 obtain ⟨s0, s1, s5, s6, s7, s8, s19, s20, s21, s22, s52, s53, s54⟩ := hKp
 have hf := hf1; clear hf1
 refine Fact.nx (hK16 _ _ ?_)
 have q1 : (((i2 + 1 : Nat) : Int) == 0) = false := beq_false_of_ne (by omega)
 have q2 : ((i2 : Int) + 1 == 0) = false := beq_false_of_ne (by omega)
 try simp only [q1, q2] at s52
 try simp at s52
 refine Fact.cond_f s52 ?_
 refine wp_seq_k (fun K17 hK17 => ?_)
 refine Fact.region ?_
 have b60 := hf.l 60 rfl
 have b61 := hf.l 61 rfl
 refine Fact.p rfl fun K hK => ?_
 go_simp
 refine hK.out _ _ ?_; clear hK K
 refine Fact.p rfl fun K hK => ?_
 go_simp
 refine hK.out _ _ ?_; clear hK K
 refine Fact.p rfl fun K hK => ?_
 go_simp
 refine hK.out _ _ ?_; clear hK K
 refine Fact.nil ?_
 refine Fact.q hf (by simp only [Fact.G]) rfl fun fr1 hf1 hT => ?_
 have hKp : _ ∧ _ ∧ _ ∧ _ ∧ _ ∧ _ ∧ _ ∧ _ ∧ _ ∧ _ ∧ _ ∧ _ ∧ _ ∧ _ ∧ _ ∧ _ := ⟨hT 0, hT 1, hT 5, hT 6, hT 7, hT 8, hT 19, hT 20, hT 21, hT 22, hT 52, hT 53, hT 54, hT 59, hT 60, hT 61⟩
 simp only [Fact.G, Nat.reduceEqDiff, Nat.reduceLT, hf.size, reduceIte, s0, s1, s5, s6, s7, s8, s19, s20, s21, s22, s52, s53, s54] at hKp
 clear hT hf s0 s1 s5 s6 s7 s8 s19 s20 s21 s22 s52 s53 s54 b60 b61
 obtain ⟨s0, s1, s5, s6, s7, s8, s19, s20, s21, s22, s52, s53, s54, s59, s60, s61⟩ := hKp
 have hf := hf1; clear hf1
 refine Fact.nx (hK17 _ _ ?_)
 try simp at s59
 refine Fact.cond_t s59 ?_
 refine Fact.region ?_
 have b62 := hf.l 62 rfl
 have b63 := hf.l 63 rfl
 have b64 := hf.l 64 rfl
 have b65 := hf.l 65 rfl
 refine Fact.p rfl fun K hK => ?_
 go_simp
 refine hK.out _ _ ?_; clear hK K
 refine Fact.p rfl fun K hK => ?_
 go_simp
 refine hK.out _ _ ?_; clear hK K
 refine Fact.p rfl fun K hK => ?_
 go_simp
 refine hK.out _ _ ?_; clear hK K
 refine Fact.p rfl fun K hK => ?_
 go_simp
 refine hK.out _ _ ?_; clear hK K
 refine Fact.p rfl fun K hK => ?_
 go_simp
 refine hK.out _ _ ?_; clear hK K
 refine Fact.nil ?_
 refine Fact.q hf (by simp only [Fact.G]) rfl fun fr1 hf1 hT => ?_
 have hKp : _ ∧ _ ∧ _ ∧ _ ∧ _ ∧ _ ∧ _ ∧ _ ∧ _ ∧ _ ∧ _ ∧ _ ∧ _ ∧ _ ∧ _ ∧ _ ∧ _ ∧ _ ∧ _ ∧ _ := ⟨hT 0, hT 1, hT 5, hT 6, hT 7, hT 8, hT 19, hT 20, hT 21, hT 22, hT 52, hT 53, hT 54, hT 59, hT 60, hT 61, hT 62, hT 63, hT 64, hT 65⟩
 simp only [Fact.G, Nat.reduceEqDiff, Nat.reduceLT, hf.size, reduceIte, s0, s1, s5, s6, s7, s8, s19, s20, s21, s22, s52, s53, s54, s59, s60, s61] at hKp
 clear hT hf s0 s1 s5 s6 s7 s8 s19 s20 s21 s22 s52 s53 s54 s59 s60 s61 b62 b63 b64 b65
 obtain ⟨s0, s1, s5, s6, s7, s8, s19, s20, s21, s22, s52, s53, s54, s59, s60, s61, s62, s63, s64, s65⟩ := hKp
 have hf := hf1; clear hf1
 refine Fact.block_normal ?_
 refine Fact.block_normal ?_
 refine Fact.nx (hK15 _ _ ?_)
 refine Fact.region ?_
 have b23 := hf.l 23 rfl
 have b24 := hf.l 24 rfl
 refine Fact.p rfl fun K hK => ?_
 go_simp
 refine hK.out _ _ ?_; clear hK K
 refine Fact.p rfl fun K hK => ?_
 go_simp
 try simp (disch := omega) only [Fact.wrap_i64, Fact.wrap_u8, Fact.wrap_u32, Fact.wrap_u64]
 refine hK.out _ _ ?_; clear hK K
 refine Fact.p rfl fun K hK => ?_
 go_simp
 refine hK.out _ _ ?_; clear hK K
 refine Fact.nil ?_
 refine Fact.q hf (by simp only [Fact.G]) rfl fun fr1 hf1 hT => ?_
 have hKp : _ ∧ _ ∧ _ ∧ _ ∧ _ ∧ _ ∧ _ ∧ _ ∧ _ ∧ _ ∧ _ ∧ _ ∧ _ ∧ _ ∧ _ ∧ _ ∧ _ ∧ _ ∧ _ ∧ _ ∧ _ ∧ _ := ⟨hT 0, hT 1, hT 5, hT 6, hT 7, hT 8, hT 19, hT 20, hT 21, hT 22, hT 23, hT 24, hT 52, hT 53, hT 54, hT 59, hT 60, hT 61, hT 62, hT 63, hT 64, hT 65⟩
 simp only [Fact.G, Nat.reduceEqDiff, Nat.reduceLT, hf.size, reduceIte, s0, s1, s5, s6, s7, s19, s20, s21, s22, s52, s53, s54, s59, s60, s61, s62, s63, s64, s65] at hKp
 clear hT hf s0 s1 s5 s6 s7 s8 s19 s20 s21 s22 s52 s53 s54 s59 s60 s61 s62 s63 s64 s65 b23 b24
 obtain ⟨s0, s1, s5, s6, s7, s8, s19, s20, s21, s22, s23, s24, s52, s53, s54, s59, s60, s61, s62, s63, s64, s65⟩ := hKp
 have hf := hf1; clear hf1
 refine Fact.then_normal ?_
 exact ⟨_, by have := HK2.out; omega, 1, _, rfl, Nat.le_refl _, fun _ => rfl, hf, s0, s1, s5, s6, s7, s8, set_cell3 hg, hb2.setCell (Nat.le_refl _) _⟩))
 · (
 have hn1 : n = 1 := by have h9 := of_decide_eq_false hq2; first | omega | (simp at h9; omega)
 have hxi := HX.out hn1
 subst hxi
 clear cg fg
 refine wp_exit ?_
 refine Fact.then_exit ?_
 refine Fact.then_exit ?_
 refine Fact.block_exit ?_
 refine Fact.nx (hK9 _ _ ?_)
 have hg2 : (wr2.alloc (.cells #[.slice (some ⟨wr.heap.size, 0, none⟩) 1 1] 58)).heap[wr.heap.size]? = some (.cells #[.int .i64 (i : Int)] 3 (0, 0)) := (Below.heap_alloc _ _ _ (Array.getElem?_eq_some_iff.1 hg).1).trans hg
 have hb3 : Below wr2.heap.size wr2 (wr2.alloc (.cells #[.slice (some ⟨wr.heap.size, 0, none⟩) 1 1] 58)) := (Below.refl _ _).alloc (Nat.le_refl _) _
 have hc3 : (wr2.alloc (.cells #[.slice (some ⟨wr.heap.size, 0, none⟩) 1 1] 58)).cell? ⟨wr2.heap.size, 0, none⟩ = some (.slice (some ⟨wr.heap.size, 0, none⟩) 1 1) := cell_of_row _ _ 0 _ 58 (0, 0) (heap_alloc_new wr2 _)
 have ho3 := (ho.later hb2).later hb3
 have hbs := hb.size; have hbs2 := hb2.size
 refine Fact.region ?_
 have b88 := hf.l 88 rfl
 have b89 := hf.l 89 rfl
 have b90 := hf.l 90 rfl
 have b91 := hf.l 91 rfl
 refine Fact.p rfl fun K hK => ?_
 go_simp
 refine hK.out _ _ ?_; clear hK K
 refine Fact.p rfl fun K hK => ?_
 go_simp
 refine hK.out _ _ ?_; clear hK K
 refine Fact.p rfl fun K hK => ?_
 go_simp
 refine hK.out _ _ ?_; clear hK K
 refine Fact.reL (n := 93) (by simp only [Fact.G, hf.size]) hf.defers (fun fr1 hf1 hT => ?_)
 have hKp : _ ∧ _ ∧ _ ∧ _ ∧ _ ∧ _ ∧ _ ∧ _ ∧ _ ∧ _ ∧ _ ∧ _ ∧ _ := ⟨hT 0, hT 1, hT 5, hT 6, hT 7, hT 8, hT 19, hT 20, hT 21, hT 22, hT 88, hT 89, hT 90⟩
 simp only [Fact.G, Nat.reduceEqDiff, Nat.reduceLT, hf.size, reduceIte, s0, s1, s5, s6, s7, s8, s19, s20, s21, s22] at hKp
 clear hT hf s0 s1 s5 s6 s7 s8 s19 s20 s21 s22 b88 b89 b90 b91
 obtain ⟨s0, s1, s5, s6, s7, s8, s19, s20, s21, s22, s88, s89, s90⟩ := hKp
 have hf := hf1; clear hf1
 have b91 := hf.l 91 rfl
 refine Fact.p rfl fun K hK => ?_
 refine wp_appT _ _ rfl rfl w.heap.size v i wr.heap.size 1 _ (Fact.eval_tmp s88) ho3 wr2.heap.size (Fact.eval_tmp s90) hc3 hg2 rfl (by omega) (by have := hb3.size; omega) (fun v2 w2 ho4 hb4 => ?_)
 refine hK.out _ _ ?_; clear hK K
 refine Fact.p rfl fun K hK => ?_
 go_simp
 refine hK.out _ _ ?_; clear hK K
 refine Fact.nil ?_
 refine Fact.q hf (by simp only [Fact.G]) rfl fun fr1 hf1 hT => ?_
 have hKp : _ ∧ _ ∧ _ ∧ _ ∧ _ ∧ _ ∧ _ ∧ _ ∧ _ ∧ _ ∧ _ ∧ _ ∧ _ ∧ _ := ⟨hT 0, hT 1, hT 5, hT 6, hT 7, hT 8, hT 19, hT 20, hT 21, hT 22, hT 88, hT 89, hT 90, hT 91⟩
 simp only [Fact.G, Nat.reduceEqDiff, Nat.reduceLT, hf.size, reduceIte, s0, s1, s6, s7, s8, s19, s20, s21, s22, s88, s89, s90] at hKp
 clear hT hf s0 s1 s5 s6 s7 s8 s19 s20 s21 s22 s88 s89 s90 b91
 obtain ⟨s0, s1, s5, s6, s7, s8, s19, s20, s21, s22, s88, s89, s90, s91⟩ := hKp
 have hf := hf1; clear hf1
 refine Fact.block_normal ?_
 refine Fact.nx (hK7 _ _ ?_)
 refine Fact.region ?_
 have b13 := hf.l 13 rfl
 have b14 := hf.l 14 rfl
 refine Fact.p rfl fun K hK => ?_
 go_simp
 refine hK.out _ _ ?_; clear hK K
 refine Fact.p rfl fun K hK => ?_
 go_simp
 try simp (disch := omega) only [Fact.wrap_i64, Fact.wrap_u8, Fact.wrap_u32, Fact.wrap_u64]
 refine hK.out _ _ ?_; clear hK K
 refine Fact.p rfl fun K hK => ?_
 go_simp
 refine hK.out _ _ ?_; clear hK K
 refine Fact.nil ?_
 refine Fact.q hf (by simp only [Fact.G]) rfl fun fr1 hf1 hT => ?_
 have hKp : _ ∧ _ ∧ _ ∧ _ ∧ _ ∧ _ ∧ _ ∧ _ ∧ _ ∧ _ ∧ _ ∧ _ ∧ _ ∧ _ ∧ _ ∧ _ := ⟨hT 0, hT 1, hT 5, hT 6, hT 7, hT 8, hT 13, hT 14, hT 19, hT 20, hT 21, hT 22, hT 88, hT 89, hT 90, hT 91⟩
 simp only [Fact.G, Nat.reduceEqDiff, Nat.reduceLT, hf.size, reduceIte, s0, s1, s5, s7, s8, s19, s20, s21, s22, s88, s89, s90, s91] at hKp
 clear hT hf s0 s1 s5 s6 s7 s8 s19 s20 s21 s22 s88 s89 s90 s91 b13 b14
 obtain ⟨s0, s1, s5, s6, s7, s8, s13, s14, s19, s20, s21, s22, s88, s89, s90, s91⟩ := hKp
 have hf := hf1; clear hf1
 refine Fact.then_normal ?_
 exact ⟨_, by have := HK.out; omega, i + 1, _, rfl, by omega, hf, s0, s1, s5, by rw [s6]; rfl, ho4, hb.trans (((hb2.mono hb.size).trans (hb3.mono (by omega))).trans hb4)⟩)))
 · (
 have hie : i = a.size + 1 := by have h9 := of_decide_eq_false hq; omega
 subst hie
 refine wp_exit ?_
 refine Fact.then_exit ?_
 refine Fact.then_exit ?_
 refine Fact.block_exit ?_
 refine Fact.nx (hK3 _ _ ?_)
 refine wp_seq_k (fun K18 hK18 => ?_)
 refine Fact.region ?_
 have b92 := hf.l 92 rfl
 refine Fact.p rfl fun K hK => ?_
 go_simp
 refine hK.out _ _ ?_; clear hK K
 refine Fact.p rfl fun K hK => ?_
 go_simp
 refine hK.out _ _ ?_; clear hK K
 refine Fact.nil ?_
 refine Fact.q hf (by simp only [Fact.G]) rfl fun fr1 hf1 hT => ?_
 have hKp := hT 4
 simp only [Fact.G, Nat.reduceEqDiff, Nat.reduceLT, hf.size, reduceIte] at hKp
 clear hT hf s0 s1 s5 s6 s9 s10 s11 s12 b92
 have s4 := hKp; clear hKp
 have hf := hf1; clear hf1
 refine Fact.nx (hK18 _ _ ?_)
 refine wp_ret ?_
 exact Fact.ret1 rfl hf s4 ⟨_, rfl, ho, hb⟩))
set_option maxHeartbeats 4000000 in
set_option maxRecDepth 100000 in
theorem rof65 (a : ByteArray) (ha : a.size ≤ 900) (w : World) : Calls Try.prog 65 #[.string a, .string ⟨#[]⟩] w fun e w1 => e = .returned (.int .i64 (a.size : Nat)) ∧ Below w.heap.size w w1 := by
 refine calls_of_wp Try.func65 rfl ?_
 refine Fact.enter (n := 16) (by kernel_rfl) (fun fr hf hT => ?_)
 have s0 := hT 0 _ rfl
 have s1 := hT 1 _ rfl
 clear hT
 refine wp_seq_k (fun K1 hK1 => ?_)
 refine Fact.region ?_
 refine Fact.p rfl fun K hK => ?_
 go_simp
 refine hK.out _ _ ?_; clear hK K
 refine Fact.nil ?_
 refine Fact.q hf (by simp only [Fact.G]) rfl fun fr1 hf1 hT => ?_
 have hKp : _ ∧ _ ∧ _ := ⟨hT 0, hT 1, hT 4⟩
 simp only [Fact.G, Nat.reduceEqDiff, Nat.reduceLT, hf.size, reduceIte, s0, s1] at hKp
 clear hT hf s0 s1
 obtain ⟨s0, s1, s4⟩ := hKp
 have hf := hf1; clear hf1
 refine Fact.nx (hK1 _ _ ?_)
 refine wp_seq_k (fun K2 hK2 => ?_)
 refine Fact.region ?_
 have b5 := hf.l 5 rfl
 have b6 := hf.l 6 rfl
 have b7 := hf.l 7 rfl
 have b8 := hf.l 8 rfl
 have b9 := hf.l 9 rfl
 have b10 := hf.l 10 rfl
 have b11 := hf.l 11 rfl
 have b12 := hf.l 12 rfl
 have b13 := hf.l 13 rfl
 have b14 := hf.l 14 rfl
 have b15 := hf.l 15 rfl
 refine Fact.p rfl fun K hK => ?_
 go_simp
 refine hK.out _ _ ?_; clear hK K
 refine Fact.p rfl fun K hK => ?_
 go_simp
 refine hK.out _ _ ?_; clear hK K
 refine Fact.p rfl fun K hK => ?_
 go_simp
 go_at_call 78; refine (table78 a ha w).mono ?_; rintro e w1 ⟨v1, rfl, ho1, hb1⟩
 obtain ⟨b1, c1, rfl, hc1⟩ := ho1.at_ (Nat.succ_pos _)
 obtain ⟨g2, d2, y1, y2⟩ := hc1 a.size (by omega)
 have HC1 := Lib.hid hc1; clear hc1
 dsimp only
 refine hK.out _ _ ?_; clear hK K
 refine Fact.p rfl fun K hK => ?_
 go_simp
 refine hK.out _ _ ?_; clear hK K
 refine Fact.p rfl fun K hK => ?_
 go_simp
 refine hK.out _ _ ?_; clear hK K
 refine Fact.p rfl fun K hK => ?_
 go_simp
 try rw [if_pos (by omega)]
 refine hK.out _ _ ?_; clear hK K
 refine Fact.p rfl fun K hK => ?_
 go_simp
 refine hK.out _ _ ?_; clear hK K
 refine Fact.p rfl fun K hK => ?_
 go_simp
 refine hK.out _ _ ?_; clear hK K
 refine Fact.p rfl fun K hK => ?_
 go_simp
 refine hK.out _ _ ?_; clear hK K
 refine Fact.p rfl fun K hK => ?_
 go_simp
 refine hK.out _ _ ?_; clear hK K
 refine Fact.p rfl fun K hK => ?_
 go_simp
 refine hK.out _ _ ?_; clear hK K
 refine Fact.p rfl fun K hK => ?_
 go_simp
 refine hK.out _ _ ?_; clear hK K
 refine Fact.nil ?_
 refine Fact.q hf (by simp only [Fact.G]) rfl fun fr1 hf1 hT => ?_
 have hKp := hT 4
 simp only [Fact.G, Nat.reduceEqDiff, Nat.reduceLT, hf.size, reduceIte] at hKp
 clear hT hf s0 s1 s4 b5 b6 b7 b8 b9 b10 b11 b12 b13 b14 b15
 have s4 := hKp; clear hKp
 have hf := hf1; clear hf1
 refine Fact.nx (hK2 _ _ ?_)
 refine wp_ret ?_
 exact Fact.ret1 rfl hf s4 ⟨rfl, hb1⟩
set_option maxHeartbeats 4000000 in
set_option maxRecDepth 100000 in
theorem behind50 (q : ByteArray) (hq9 : q.size ≤ 800) (w : World) : Calls Try.prog 50 #[.string q, .string ⟨#[]⟩] w fun e w1 => ∃ v, e = .returned v ∧ Rd w1 v (q.size + 1) (fun i => i) ∧ Below w.heap.size w w1 := by
 refine calls_of_wp Try.func50 rfl ?_
 refine Fact.enter (n := 22) (by kernel_rfl) (fun fr hf hT => ?_)
 have s0 := hT 0 _ rfl
 have s1 := hT 1 _ rfl
 clear hT
 refine wp_seq_k (fun K1 hK1 => ?_)
 refine Fact.region ?_
 refine Fact.p rfl fun K hK => ?_
 go_simp
 refine hK.out _ _ ?_; clear hK K
 refine Fact.nil ?_
 refine Fact.q hf (by simp only [Fact.G]) rfl fun fr1 hf1 hT => ?_
 have hKp : _ ∧ _ ∧ _ := ⟨hT 0, hT 1, hT 4⟩
 simp only [Fact.G, Nat.reduceEqDiff, Nat.reduceLT, hf.size, reduceIte, s0, s1] at hKp
 clear hT hf s0 s1
 obtain ⟨s0, s1, s4⟩ := hKp
 have hf := hf1; clear hf1
 refine Fact.nx (hK1 _ _ ?_)
 refine wp_seq_k (fun K2 hK2 => ?_)
 refine Fact.region ?_
 refine Fact.p rfl fun K hK => ?_
 go_simp
 refine hK.out _ _ ?_; clear hK K
 refine Fact.nil ?_
 refine Fact.q hf (by simp only [Fact.G]) rfl fun fr1 hf1 hT => ?_
 have hKp : _ ∧ _ ∧ _ ∧ _ := ⟨hT 0, hT 1, hT 4, hT 5⟩
 simp only [Fact.G, Nat.reduceEqDiff, Nat.reduceLT, hf.size, reduceIte, s0, s1, s4] at hKp
 clear hT hf s0 s1 s4
 obtain ⟨s0, s1, s4, s5⟩ := hKp
 have hf := hf1; clear hf1
 refine Fact.nx (hK2 _ _ ?_)
 refine wp_seq_k (fun K3 hK3 => ?_)
 refine wp_seq_k (fun K4 hK4 => ?_)
 refine Fact.region ?_
 refine Fact.p rfl fun K hK => ?_
 go_simp
 refine hK.out _ _ ?_; clear hK K
 refine Fact.nil ?_
 refine Fact.q hf (by simp only [Fact.G]) rfl fun fr1 hf1 hT => ?_
 have hKp : _ ∧ _ ∧ _ ∧ _ ∧ _ := ⟨hT 0, hT 1, hT 4, hT 5, hT 6⟩
 simp only [Fact.G, Nat.reduceEqDiff, Nat.reduceLT, hf.size, reduceIte, s0, s1, s4, s5] at hKp
 clear hT hf s0 s1 s4 s5
 obtain ⟨s0, s1, s4, s5, s6⟩ := hKp
 have hf := hf1; clear hf1
 refine Fact.nx (hK4 _ _ ?_)
 refine wp_block ?_
 refine wp_loop_ghost (fun gk fr wr => ∃ (i : Nat) (v : Value), gk = q.size + 1 - i ∧ i ≤ q.size + 1 ∧ Fact.Fr 22 fr ∧ fr.tmps[0]? = some (.string q) ∧ fr.tmps[1]? = some (.string ⟨#[]⟩) ∧ fr.tmps[5]? = some v ∧ fr.tmps[6]? = some (.int .i64 i) ∧ OI wr w.heap.size v (List.range i) ∧ Below w.heap.size w wr) (q.size + 1) ?_ ?_
 · (
 exact ⟨0, _, rfl, Nat.zero_le _, hf, s0, s1, s5, s6, OI.nil _ _, Below.refl _ _⟩)
 · (
 clear hf s0 s1 s4 s5 s6
 rintro gk fr wr ⟨i, v, hk, hi, hf, s0, s1, s5, s6, ho, hb⟩
 have HK := Lib.hid hk; clear hk
 refine wp_seq_k (fun K5 hK5 => ?_)
 refine wp_seq_k (fun K6 hK6 => ?_)
 refine Fact.region ?_
 have b7 := hf.l 7 rfl
 have b8 := hf.l 8 rfl
 have b9 := hf.l 9 rfl
 refine Fact.p rfl fun K hK => ?_
 go_simp
 refine hK.out _ _ ?_; clear hK K
 refine Fact.p rfl fun K hK => ?_
 go_simp
 refine hK.out _ _ ?_; clear hK K
 refine Fact.p rfl fun K hK => ?_
 go_simp
 refine hK.out _ _ ?_; clear hK K
 refine Fact.p rfl fun K hK => ?_
 go_simp
 refine hK.out _ _ ?_; clear hK K
 refine Fact.nil ?_
 refine Fact.q hf (by simp only [Fact.G]) rfl fun fr1 hf1 hT => ?_
 have hKp : _ ∧ _ ∧ _ ∧ _ ∧ _ ∧ _ ∧ _ ∧ _ := ⟨hT 0, hT 1, hT 5, hT 6, hT 7, hT 8, hT 9, hT 10⟩
 simp only [Fact.G, Nat.reduceEqDiff, Nat.reduceLT, hf.size, reduceIte, s0, s1, s5, s6] at hKp
 clear hT hf s0 s1 s5 s6 b7 b8 b9
 obtain ⟨s0, s1, s5, s6, s7, s8, s9, s10⟩ := hKp
 have hf := hf1; clear hf1
 refine Fact.nx (hK6 _ _ ?_)
 refine Fact.cond_s s10 (fun hq => ?_) (fun hq => ?_)
 · (
 have hle : i ≤ q.size := by have h9 := of_decide_eq_true hq; omega
 have hsz : (q.extract 0 i).size = i := by rw [ByteArray.size_extract]; omega
 have HS := Lib.hid hsz; clear hsz
 refine wp_skip ?_
 refine Fact.nx (hK5 _ _ ?_)
 refine wp_seq_k (fun K7 hK7 => ?_)
 refine wp_block ?_
 refine Fact.region ?_
 have b13 := hf.l 13 rfl
 have b14 := hf.l 14 rfl
 have b15 := hf.l 15 rfl
 have b16 := hf.l 16 rfl
 have b17 := hf.l 17 rfl
 have b18 := hf.l 18 rfl
 have b19 := hf.l 19 rfl
 have b20 := hf.l 20 rfl
 refine Fact.p rfl fun K hK => ?_
 go_simp
 refine hK.out _ _ ?_; clear hK K
 refine Fact.p rfl fun K hK => ?_
 go_simp
 refine hK.out _ _ ?_; clear hK K
 refine Fact.p rfl fun K hK => ?_
 go_simp
 refine hK.out _ _ ?_; clear hK K
 refine Fact.p rfl fun K hK => ?_
 go_simp
 try rw [if_pos (by omega)]
 refine hK.out _ _ ?_; clear hK K
 refine Fact.p rfl fun K hK => ?_
 go_simp
 refine hK.out _ _ ?_; clear hK K
 refine Fact.p rfl fun K hK => ?_
 go_simp
 go_at_call 65; refine (rof65 (q.extract 0 i) (by rw [HS.out]; omega) wr).mono ?_; rintro e w2 ⟨rfl, h2⟩
 rw [HS.out]
 have hb3 : Below w2.heap.size w2 (w2.alloc (.cells #[.int .i64 (i : Int)] 3)) := (Below.refl _ _).alloc (Nat.le_refl _) _
 have ho3 := own_later (own_later ho h2) hb3
 have hbs := hb.size; have hbs2 := h2.size; have hbs3 := hb3.size
 dsimp only
 refine hK.out _ _ ?_; clear hK K
 refine Fact.p rfl fun K hK => ?_
 go_simp
 refine hK.out _ _ ?_; clear hK K
 refine Fact.reL (n := 22) (by simp only [Fact.G, hf.size]) hf.defers (fun fr1 hf1 hT => ?_)
 have hKp : _ ∧ _ ∧ _ ∧ _ ∧ _ ∧ _ ∧ _ ∧ _ ∧ _ ∧ _ ∧ _ ∧ _ ∧ _ ∧ _ ∧ _ := ⟨hT 0, hT 1, hT 5, hT 6, hT 7, hT 8, hT 9, hT 10, hT 13, hT 14, hT 15, hT 16, hT 17, hT 18, hT 19⟩
 simp only [Fact.G, Nat.reduceEqDiff, Nat.reduceLT, hf.size, reduceIte, s0, s1, s5, s6, s7, s8, s9, s10] at hKp
 clear hT hf s0 s1 s5 s6 s7 s8 s9 s10 b13 b14 b15 b16 b17 b18 b19 b20
 obtain ⟨s0, s1, s5, s6, s7, s8, s9, s10, s13, s14, s15, s16, s17, s18, s19⟩ := hKp
 have hf := hf1; clear hf1
 have b20 := hf.l 20 rfl
 refine Fact.p rfl fun K hK => ?_
 refine wp_app3 _ _ rfl rfl w.heap.size v _ i (Fact.eval_tmp s13) ho3 w2.heap.size (Fact.eval_tmp s19) (one_cell w2 i) (by simp; omega) (by omega) (fun v2 w4 ho4 hg4 hb4 => ?_)
 refine hK.out _ _ ?_; clear hK K
 refine Fact.p rfl fun K hK => ?_
 go_simp
 refine hK.out _ _ ?_; clear hK K
 refine Fact.nil ?_
 refine Fact.q hf (by simp only [Fact.G]) rfl fun fr1 hf1 hT => ?_
 have hKp : _ ∧ _ ∧ _ ∧ _ ∧ _ ∧ _ ∧ _ ∧ _ ∧ _ ∧ _ ∧ _ ∧ _ ∧ _ ∧ _ ∧ _ ∧ _ := ⟨hT 0, hT 1, hT 5, hT 6, hT 7, hT 8, hT 9, hT 10, hT 13, hT 14, hT 15, hT 16, hT 17, hT 18, hT 19, hT 20⟩
 simp only [Fact.G, Nat.reduceEqDiff, Nat.reduceLT, hf.size, reduceIte, s0, s1, s6, s7, s8, s9, s10, s13, s14, s15, s16, s17, s18, s19] at hKp
 clear hT hf s0 s1 s5 s6 s7 s8 s9 s10 s13 s14 s15 s16 s17 s18 s19 b20
 obtain ⟨s0, s1, s5, s6, s7, s8, s9, s10, s13, s14, s15, s16, s17, s18, s19, s20⟩ := hKp
 have hf := hf1; clear hf1
 refine Fact.block_normal ?_
 refine Fact.nx (hK7 _ _ ?_)
 refine Fact.region ?_
 have b11 := hf.l 11 rfl
 have b12 := hf.l 12 rfl
 refine Fact.p rfl fun K hK => ?_
 go_simp
 refine hK.out _ _ ?_; clear hK K
 refine Fact.p rfl fun K hK => ?_
 go_simp
 try simp (disch := omega) only [Fact.wrap_i64, Fact.wrap_u8, Fact.wrap_u32, Fact.wrap_u64]
 refine hK.out _ _ ?_; clear hK K
 refine Fact.p rfl fun K hK => ?_
 go_simp
 refine hK.out _ _ ?_; clear hK K
 refine Fact.nil ?_
 refine Fact.q hf (by simp only [Fact.G]) rfl fun fr1 hf1 hT => ?_
 have hKp : _ ∧ _ ∧ _ ∧ _ ∧ _ ∧ _ ∧ _ ∧ _ ∧ _ ∧ _ ∧ _ ∧ _ ∧ _ ∧ _ ∧ _ ∧ _ ∧ _ ∧ _ := ⟨hT 0, hT 1, hT 5, hT 6, hT 7, hT 8, hT 9, hT 10, hT 11, hT 12, hT 13, hT 14, hT 15, hT 16, hT 17, hT 18, hT 19, hT 20⟩
 simp only [Fact.G, Nat.reduceEqDiff, Nat.reduceLT, hf.size, reduceIte, s0, s1, s5, s7, s8, s9, s10, s13, s14, s15, s16, s17, s18, s19, s20] at hKp
 clear hT hf s0 s1 s5 s6 s7 s8 s9 s10 s13 s14 s15 s16 s17 s18 s19 s20 b11 b12
 obtain ⟨s0, s1, s5, s6, s7, s8, s9, s10, s11, s12, s13, s14, s15, s16, s17, s18, s19, s20⟩ := hKp
 have hf := hf1; clear hf1
 refine Fact.then_normal ?_
 exact ⟨_, by have := HK.out; omega, i + 1, _, rfl, by omega, hf, s0, s1, s5, by rw [s6]; rfl, by rw [range_snoc]; exact ho4, hb.trans (((h2.mono hb.size).trans (hb3.mono (by omega))).trans hb4)⟩)
 · (
 have hie : i = q.size + 1 := by have h9 := of_decide_eq_false hq; omega
 subst hie
 refine wp_exit ?_
 refine Fact.then_exit ?_
 refine Fact.then_exit ?_
 refine Fact.block_exit ?_
 refine Fact.nx (hK3 _ _ ?_)
 refine wp_seq_k (fun K8 hK8 => ?_)
 refine Fact.region ?_
 have b21 := hf.l 21 rfl
 refine Fact.p rfl fun K hK => ?_
 go_simp
 refine hK.out _ _ ?_; clear hK K
 refine Fact.p rfl fun K hK => ?_
 go_simp
 refine hK.out _ _ ?_; clear hK K
 refine Fact.nil ?_
 refine Fact.q hf (by simp only [Fact.G]) rfl fun fr1 hf1 hT => ?_
 have hKp := hT 4
 simp only [Fact.G, Nat.reduceEqDiff, Nat.reduceLT, hf.size, reduceIte] at hKp
 clear hT hf s0 s1 s5 s6 s7 s8 s9 s10 b21
 have s4 := hKp; clear hKp
 have hf := hf1; clear hf1
 refine Fact.nx (hK8 _ _ ?_)
 refine wp_ret ?_
 exact Fact.ret1 rfl hf s4 ⟨_, rfl, behind_rd ho, hb⟩))
set_option maxHeartbeats 4000000 in
set_option maxRecDepth 100000 in
theorem rrow30 (q : ByteArray) (hq9 : q.size ≤ 800) (w : World) : Calls Try.prog 30 #[.string q] w fun e w1 => ∃ v, e = .returned v ∧ Rd w1 v (q.size + 1) (fun i => i) ∧ Below w.heap.size w w1 := by
 refine calls_of_wp Try.func30 rfl ?_
 refine Fact.enter (n := 5) (by kernel_rfl) (fun fr hf hT => ?_)
 have s0 := hT 0 _ rfl
 clear hT
 refine wp_seq_k (fun K1 hK1 => ?_)
 refine Fact.region ?_
 refine Fact.p rfl fun K hK => ?_
 go_simp
 refine hK.out _ _ ?_; clear hK K
 refine Fact.nil ?_
 refine Fact.q hf (by simp only [Fact.G]) rfl fun fr1 hf1 hT => ?_
 have hKp : _ ∧ _ := ⟨hT 0, hT 2⟩
 simp only [Fact.G, Nat.reduceEqDiff, Nat.reduceLT, hf.size, reduceIte, s0] at hKp
 clear hT hf s0
 obtain ⟨s0, s2⟩ := hKp
 have hf := hf1; clear hf1
 refine Fact.nx (hK1 _ _ ?_)
 refine wp_seq_k (fun K2 hK2 => ?_)
 refine Fact.region ?_
 have b3 := hf.l 3 rfl
 have b4 := hf.l 4 rfl
 refine Fact.p rfl fun K hK => ?_
 go_simp
 refine hK.out _ _ ?_; clear hK K
 refine Fact.p rfl fun K hK => ?_
 go_simp
 go_at_call 50; refine (behind50 q hq9 w).mono ?_; rintro e w1 ⟨v1, rfl, hr1, hb1⟩
 dsimp only
 refine hK.out _ _ ?_; clear hK K
 refine Fact.p rfl fun K hK => ?_
 go_simp
 refine hK.out _ _ ?_; clear hK K
 refine Fact.nil ?_
 refine Fact.q hf (by simp only [Fact.G]) rfl fun fr1 hf1 hT => ?_
 have hKp := hT 2
 simp only [Fact.G, Nat.reduceEqDiff, Nat.reduceLT, hf.size, reduceIte] at hKp
 clear hT hf s0 s2 b3 b4
 have s2 := hKp; clear hKp
 have hf := hf1; clear hf1
 refine Fact.nx (hK2 _ _ ?_)
 refine wp_ret ?_
 exact Fact.ret1 rfl hf s2 ⟨_, rfl, hr1, hb1⟩
set_option maxHeartbeats 4000000 in
set_option maxRecDepth 100000 in
theorem rstart14 (q : ByteArray) (k : Nat) (hq0 : q.size ≤ 255) (hk3 : k ≤ 3) (w : World) : Calls Try.prog 14 #[.agg #[.string q, .int .i64 k]] w fun e w1 => e = .returned (.string (startS q k)) ∧ Below w.heap.size w w1 := by
 refine calls_of_wp Try.func14 rfl ?_
 refine Fact.enter (n := 8) (by kernel_rfl) (fun fr hf hT => ?_)
 have s0 := hT 0 _ rfl
 clear hT
 obtain ⟨W0, hW0⟩ : ∃ W0, w.alloc (.cells #[.string q, .int .i64 k] 31) = W0 := ⟨_, rfl⟩
 obtain ⟨x0, x1, hb0⟩ := auto_cells w q k W0 hW0
 refine wp_seq_k (fun K1 hK1 => ?_)
 refine Fact.region ?_
 refine Fact.p rfl fun K hK => ?_
 go_simp
 refine hK.out _ _ ?_; clear hK K
 refine Fact.p rfl fun K hK => ?_
 go_simp
 refine hK.out _ _ ?_; clear hK K
 refine Fact.nil ?_
 refine Fact.q hf (by simp only [Fact.G]) rfl fun fr1 hf1 hT => ?_
 have hKp : _ ∧ _ := ⟨hT 1, hT 2⟩
 simp only [Fact.G, Nat.reduceEqDiff, Nat.reduceLT, hf.size, reduceIte] at hKp
 clear hT hf s0
 obtain ⟨s1, s2⟩ := hKp
 have hf := hf1; clear hf1
 refine Fact.nx (hK1 _ _ ?_)
 try rw [hW0]
 clear hW0
 refine wp_seq_k (fun K2 hK2 => ?_)
 refine Stab.todo_begin (n := 8) (Stab.OkOps.of (by kernel_rfl)) (fun hok => ?_)
 apply Stab.t 0 _ hf.size hok.out rfl
 · (
 intro fr1 w1 hh hd hk K hK
 refine Stab.op_plain (o := _) rfl rfl ?_
 have s1 := Stab.o hh (by kernel_rfl) s1
 clear hd
 have u0 := cell_later hh.ext x0; have u1 := cell_later hh.ext x1
 go_simp
 exact hK.out _ rfl _ _ (Below.refl _ _) rfl)
 apply Stab.t 1 _ hf.size hok.out rfl
 · (
 intro fr1 w1 hh hd hk K hK
 refine Stab.op_plain (o := _) rfl rfl ?_
 have s1 := Stab.o hh (by kernel_rfl) s1
 clear hd
 go_simp
 exact hK.out _ rfl _ _ (Below.refl _ _) rfl)
 apply Stab.t 2 _ hf.size hok.out rfl
 · (
 intro fr1 w1 hh hd hk K hK
 refine Stab.op_plain (o := _) rfl rfl ?_
 have s4 := Stab.u 1 0 hd hk rfl [] (by kernel_rfl) rfl rfl rfl
 clear hd
 have u0 := cell_later hh.ext x0
 go_simp
 exact hK.out _ rfl _ _ (Below.refl _ _) rfl)
 refine Stab.todo_op (k := 3) (n := 8) (fun v w => Rd w v (q.size + 1) (fun i => i)) hf.size hok.out rfl (fun _ _ _ hb h => Rd.later h hb) ?_ ?_
 · (
 intro fr1 w1 hh hd hk K hK
 refine Stab.op_plain (o := _) rfl rfl ?_
 have s5 := Stab.u 2 0 hd hk rfl [] (by kernel_rfl) rfl rfl rfl
 clear hd
 go_simp
 go_at_call 30; refine (rrow30 q (by omega) w1).mono ?_; rintro e w2 ⟨v1, rfl, hr1, hb⟩
 exact hK.out _ rfl _ _ hb hr1)
 apply Stab.t 4 _ hf.size hok.out rfl
 · (
 intro fr1 w1 hh hd hk K hK
 refine Stab.op_plain (o := _) rfl rfl ?_
 have s3 := Stab.u 0 3 hd hk rfl [] (by kernel_rfl) rfl rfl rfl
 obtain ⟨x6, s6, hp6⟩ := Stab.use (j := 3) (m := 0) hd hk rfl [] (by kernel_rfl) rfl rfl rfl
 clear hd
 go_simp
 go_at_call 29; refine (rstate29 q k hq0 hk3 (q.size + 1) (by omega) x6 (fun i => i) (fun j hj => by omega) w1 hp6).mono ?_; rintro e w2 ⟨rfl, hb⟩
 rw [start_caps]
 exact hK.out _ rfl _ _ hb rfl)
 refine Stab.mvN (k := 5) (j := 4) (m := 0) hf.size hok.out rfl rfl rfl (.inr rfl) rfl [] (by kernel_rfl) rfl rfl rfl ?_
 refine Stab.todo_facts (n := 8) (by kernel_rfl) hf.size hok.out rfl (fun fr1 w1 hh hg => ?_)
 clear s2; have s2 := Stab.e 5 0 hg rfl rfl rfl rfl
 have hf1 : Fact.Fr 8 fr1 := ⟨hh.size.trans hf.size, hh.defers.trans hf.defers⟩
 have hx := hh.ext
 clear hg hh hf hok s1
 have hf := hf1; clear hf1
 refine Fact.nx (hK2 _ _ ?_)
 refine wp_ret ?_
 exact Fact.ret1 rfl hf s2 ⟨rfl, hb0.trans (hx.mono hb0.size)⟩
set_option maxHeartbeats 4000000 in
set_option maxRecDepth 100000 in
theorem rstep17n (q : ByteArray) (k : Nat) (hq0 : q.size ≤ 255) (hk3 : k ≤ 3) (S : ByteArray) (b : Nat) (hok : okS q k S = false) (w : World) : Calls Try.prog 17 #[.agg #[.string q, .int .i64 k], .string S, .int .u8 b] w fun e w1 => e = .returned (.string (stepS q k S b)) ∧ Below w.heap.size w w1 := by
 refine calls_of_wp Try.func17 rfl ?_
 refine Fact.enter (n := 58) (by kernel_rfl) (fun fr hf hT => ?_)
 have s0 := hT 0 _ rfl
 have s1 := hT 1 _ rfl
 have s2 := hT 2 _ rfl
 clear hT
 obtain ⟨W0, hW0⟩ : ∃ W0, w.alloc (.cells #[.string q, .int .i64 k] 31) = W0 := ⟨_, rfl⟩
 obtain ⟨x0, x1, hb0⟩ := auto_cells w q k W0 hW0
 refine wp_seq_k (fun K1 hK1 => ?_)
 refine Fact.region ?_
 refine Fact.p rfl fun K hK => ?_
 go_simp
 refine hK.out _ _ ?_; clear hK K
 refine Fact.p rfl fun K hK => ?_
 go_simp
 refine hK.out _ _ ?_; clear hK K
 refine Fact.nil ?_
 refine Fact.q hf (by simp only [Fact.G]) rfl fun fr1 hf1 hT => ?_
 have hKp : _ ∧ _ ∧ _ ∧ _ := ⟨hT 1, hT 2, hT 3, hT 6⟩
 simp only [Fact.G, Nat.reduceEqDiff, Nat.reduceLT, hf.size, reduceIte, s1, s2] at hKp
 clear hT hf s0 s1 s2
 obtain ⟨s1, s2, s3, s6⟩ := hKp
 have hf := hf1; clear hf1
 refine Fact.nx (hK1 _ _ ?_)
 try rw [hW0]
 clear hW0
 have hos := hok; clear hok
 refine wp_seq_k (fun K2 hK2 => ?_)
 refine wp_seq_k (fun K3 hK3 => ?_)
 refine Fact.region ?_
 have b10 := hf.l 10 rfl
 have b11 := hf.l 11 rfl
 have b12 := hf.l 12 rfl
 refine Fact.p rfl fun K hK => ?_
 go_simp
 refine hK.out _ _ ?_; clear hK K
 refine Fact.p rfl fun K hK => ?_
 go_simp
 refine hK.out _ _ ?_; clear hK K
 refine Fact.p rfl fun K hK => ?_
 go_simp
 go_at_call 36; refine (ris36 q k hq0 hk3 S W0).mono ?_; rintro e w1 ⟨rfl, h1⟩
 rw [hos]
 dsimp only
 refine hK.out _ _ ?_; clear hK K
 refine Fact.p rfl fun K hK => ?_
 go_simp
 refine hK.out _ _ ?_; clear hK K
 refine Fact.nil ?_
 refine Fact.q hf (by simp only [Fact.G]) rfl fun fr1 hf1 hT => ?_
 have hKp : _ ∧ _ ∧ _ ∧ _ ∧ _ := ⟨hT 1, hT 2, hT 3, hT 6, hT 13⟩
 simp only [Fact.G, Nat.reduceEqDiff, Nat.reduceLT, hf.size, reduceIte, s1, s2, s3, s6] at hKp
 clear hT hf s1 s2 s3 s6 b10 b11 b12
 obtain ⟨s1, s2, s3, s6, s13⟩ := hKp
 have hf := hf1; clear hf1
 refine Fact.nx (hK3 _ _ ?_)
 try simp only [Bool.not_true, Bool.not_false] at s13
 refine Fact.cond_t s13 ?_
 refine wp_seq_k (fun K4 hK4 => ?_)
 refine Fact.region ?_
 refine Fact.p rfl fun K hK => ?_
 go_simp
 refine hK.out _ _ ?_; clear hK K
 refine Fact.nil ?_
 refine Fact.q hf (by simp only [Fact.G]) rfl fun fr1 hf1 hT => ?_
 have hKp : _ ∧ _ ∧ _ ∧ _ := ⟨hT 1, hT 2, hT 3, hT 6⟩
 simp only [Fact.G, Nat.reduceEqDiff, Nat.reduceLT, hf.size, reduceIte, s1, s2, s3] at hKp
 clear hT hf s1 s2 s3 s6 s13
 obtain ⟨s1, s2, s3, s6⟩ := hKp
 have hf := hf1; clear hf1
 refine Fact.nx (hK4 _ _ ?_)
 refine wp_ret ?_
 refine Fact.then_ret ?_
 exact Fact.ret1 rfl hf s6 ⟨by rw [step_bad hos], hb0.trans (h1.mono hb0.size)⟩
set_option maxHeartbeats 4000000 in
set_option maxRecDepth 100000 in
theorem rstep17y (q : ByteArray) (k : Nat) (hq0 : q.size ≤ 255) (hk3 : k ≤ 3) (S : ByteArray) (b : Nat) (hok : okS q k S = true) (w : World) : Calls Try.prog 17 #[.agg #[.string q, .int .i64 k], .string S, .int .u8 b] w fun e w1 => e = .returned (.string (stepS q k S b)) ∧ Below w.heap.size w w1 := by
 refine calls_of_wp Try.func17 rfl ?_
 refine Fact.enter (n := 58) (by kernel_rfl) (fun fr hf hT => ?_)
 have s0 := hT 0 _ rfl
 have s1 := hT 1 _ rfl
 have s2 := hT 2 _ rfl
 clear hT
 obtain ⟨W0, hW0⟩ : ∃ W0, w.alloc (.cells #[.string q, .int .i64 k] 31) = W0 := ⟨_, rfl⟩
 obtain ⟨x0, x1, hb0⟩ := auto_cells w q k W0 hW0
 refine wp_seq_k (fun K1 hK1 => ?_)
 refine Fact.region ?_
 refine Fact.p rfl fun K hK => ?_
 go_simp
 refine hK.out _ _ ?_; clear hK K
 refine Fact.p rfl fun K hK => ?_
 go_simp
 refine hK.out _ _ ?_; clear hK K
 refine Fact.nil ?_
 refine Fact.q hf (by simp only [Fact.G]) rfl fun fr1 hf1 hT => ?_
 have hKp : _ ∧ _ ∧ _ ∧ _ := ⟨hT 1, hT 2, hT 3, hT 6⟩
 simp only [Fact.G, Nat.reduceEqDiff, Nat.reduceLT, hf.size, reduceIte, s1, s2] at hKp
 clear hT hf s0 s1 s2
 obtain ⟨s1, s2, s3, s6⟩ := hKp
 have hf := hf1; clear hf1
 refine Fact.nx (hK1 _ _ ?_)
 try rw [hW0]
 clear hW0
 have hos := hok; clear hok
 refine wp_seq_k (fun K2 hK2 => ?_)
 refine wp_seq_k (fun K3 hK3 => ?_)
 refine Fact.region ?_
 have b10 := hf.l 10 rfl
 have b11 := hf.l 11 rfl
 have b12 := hf.l 12 rfl
 refine Fact.p rfl fun K hK => ?_
 go_simp
 refine hK.out _ _ ?_; clear hK K
 refine Fact.p rfl fun K hK => ?_
 go_simp
 refine hK.out _ _ ?_; clear hK K
 refine Fact.p rfl fun K hK => ?_
 go_simp
 go_at_call 36; refine (ris36 q k hq0 hk3 S W0).mono ?_; rintro e Wb ⟨rfl, h1⟩
 rw [hos]
 dsimp only
 refine hK.out _ _ ?_; clear hK K
 refine Fact.p rfl fun K hK => ?_
 go_simp
 refine hK.out _ _ ?_; clear hK K
 refine Fact.nil ?_
 refine Fact.q hf (by simp only [Fact.G]) rfl fun fr1 hf1 hT => ?_
 have hKp : _ ∧ _ ∧ _ ∧ _ ∧ _ := ⟨hT 1, hT 2, hT 3, hT 6, hT 13⟩
 simp only [Fact.G, Nat.reduceEqDiff, Nat.reduceLT, hf.size, reduceIte, s1, s2, s3, s6] at hKp
 clear hT hf s1 s2 s3 s6 b10 b11 b12
 obtain ⟨s1, s2, s3, s6, s13⟩ := hKp
 have hf := hf1; clear hf1
 refine Fact.nx (hK3 _ _ ?_)
 try simp only [Bool.not_true, Bool.not_false] at s13
 refine Fact.cond_f s13 ?_
 have hsz := okS_size hos
 have hs0 := at_lt S 0
 have y0 := cell_later h1 x0; have y1 := cell_later h1 x1
 have hatS : ∀ (j : Nat) (h : j < S.size), S[j].toNat = at_ S j := fun j h => (at_get h).symm
 have hatq : ∀ (j : Nat) (h : j < q.size), q[j].toNat = at_ q j := fun j h => (at_get h).symm
 have e3 : IntKind.i64.wrap (at_ S 0 : Int) = (at_ S 0 : Int) := Fact.wrap_i64 (by omega) (by omega)
 refine wp_skip ?_
 refine Fact.nx (hK2 _ _ ?_)
 refine wp_seq_k (fun K4 hK4 => ?_)
 refine Fact.region ?_
 have b14 := hf.l 14 rfl
 have b15 := hf.l 15 rfl
 have b16 := hf.l 16 rfl
 have b17 := hf.l 17 rfl
 have b18 := hf.l 18 rfl
 refine Fact.p rfl fun K hK => ?_
 go_simp
 refine hK.out _ _ ?_; clear hK K
 refine Fact.p rfl fun K hK => ?_
 go_simp
 try rw [if_pos (by omega)]
 refine hK.out _ _ ?_; clear hK K
 refine Fact.p rfl fun K hK => ?_
 go_simp
 refine hK.out _ _ ?_; clear hK K
 refine Fact.p rfl fun K hK => ?_
 go_simp
 try simp (disch := omega) only [Fact.wrap_i64, Fact.wrap_u8, Fact.wrap_u32, Fact.wrap_u64]
 refine hK.out _ _ ?_; clear hK K
 refine Fact.p rfl fun K hK => ?_
 go_simp
 refine hK.out _ _ ?_; clear hK K
 refine Fact.p rfl fun K hK => ?_
 go_simp
 refine hK.out _ _ ?_; clear hK K
 refine Fact.nil ?_
 refine Fact.q hf (by simp only [Fact.G]) rfl fun fr1 hf1 hT => ?_
 have hKp : _ ∧ _ ∧ _ ∧ _ ∧ _ := ⟨hT 1, hT 2, hT 3, hT 6, hT 7⟩
 simp only [Fact.G, Nat.reduceEqDiff, Nat.reduceLT, hf.size, reduceIte, s1, s2, s3, s6] at hKp
 clear hT hf s1 s2 s3 s6 s13 b14 b15 b16 b17 b18
 obtain ⟨s1, s2, s3, s6, s7⟩ := hKp
 have hf := hf1; clear hf1
 refine Fact.nx (hK4 _ _ ?_)
 obtain ⟨W1, hW1⟩ : ∃ W1, Wb.alloc (.cells #[.int .i64 ((at_ S 0 : Int) + 1)] 3) = W1 := ⟨_, rfl⟩
 have ho1 : OI W1 Wb.heap.size (.slice (some ⟨Wb.heap.size, 0, none⟩) 1 1) [at_ S 0 + 1] := by rw [← hW1]; exact OI.one Wb (at_ S 0 + 1)
 have hb1 : Below Wb.heap.size Wb W1 := by rw [← hW1]; exact (Below.refl _ _).alloc (Nat.le_refl _) _
 try rw [hW1]
 clear hW1 e3
 refine wp_seq_k (fun K5 hK5 => ?_)
 refine wp_seq_k (fun K6 hK6 => ?_)
 refine Fact.region ?_
 refine Fact.p rfl fun K hK => ?_
 go_simp
 refine hK.out _ _ ?_; clear hK K
 refine Fact.nil ?_
 refine Fact.q hf (by simp only [Fact.G]) rfl fun fr1 hf1 hT => ?_
 have hKp : _ ∧ _ ∧ _ ∧ _ ∧ _ ∧ _ := ⟨hT 1, hT 2, hT 3, hT 6, hT 7, hT 8⟩
 simp only [Fact.G, Nat.reduceEqDiff, Nat.reduceLT, hf.size, reduceIte, s1, s2, s3, s6, s7] at hKp
 clear hT hf s1 s2 s3 s6 s7
 obtain ⟨s1, s2, s3, s6, s7, s8⟩ := hKp
 have hf := hf1; clear hf1
 refine Fact.nx (hK6 _ _ ?_)
 refine wp_block ?_
 refine wp_loop_ghost (fun gk fr wr => ∃ (i : Nat) (v : Value), gk = S.size - (i + 1) ∧ i + 1 ≤ S.size ∧ Fact.Fr 58 fr ∧ fr.tmps[1]? = some (.string S) ∧ fr.tmps[2]? = some (.int .u8 b) ∧ fr.tmps[3]? = some (.pointer (some ⟨w.heap.size, 0, none⟩)) ∧ fr.tmps[7]? = some v ∧ fr.tmps[8]? = some (.int .i64 ((i : Int) + 1)) ∧ OI wr Wb.heap.size v (uns q S b (i + 1)) ∧ Below Wb.heap.size Wb wr) (q.size) ?_ ?_
 · (
 exact ⟨0, _, by omega, by omega, hf, s1, s2, s3, s7, s8, ho1, hb1⟩)
 · (
 clear hf s1 s2 s3 s6 s7 s8
 rintro gk fr wr ⟨i, v, hk, hi, hf, s1, s2, s3, s7, s8, ho, hb⟩
 have HK := Lib.hid hk; clear hk
 have z0 := cell_later hb y0; have z1 := cell_later hb y1
 have hbs := hb.size
 refine wp_seq_k (fun K7 hK7 => ?_)
 refine wp_seq_k (fun K8 hK8 => ?_)
 refine Fact.region ?_
 have b19 := hf.l 19 rfl
 have b20 := hf.l 20 rfl
 have b21 := hf.l 21 rfl
 refine Fact.p rfl fun K hK => ?_
 go_simp
 refine hK.out _ _ ?_; clear hK K
 refine Fact.p rfl fun K hK => ?_
 go_simp
 refine hK.out _ _ ?_; clear hK K
 refine Fact.p rfl fun K hK => ?_
 go_simp
 refine hK.out _ _ ?_; clear hK K
 refine Fact.p rfl fun K hK => ?_
 go_simp
 refine hK.out _ _ ?_; clear hK K
 refine Fact.nil ?_
 refine Fact.q hf (by simp only [Fact.G]) rfl fun fr1 hf1 hT => ?_
 have hKp : _ ∧ _ ∧ _ ∧ _ ∧ _ ∧ _ ∧ _ ∧ _ ∧ _ := ⟨hT 1, hT 2, hT 3, hT 7, hT 8, hT 19, hT 20, hT 21, hT 22⟩
 simp only [Fact.G, Nat.reduceEqDiff, Nat.reduceLT, hf.size, reduceIte, s1, s2, s3, s7, s8] at hKp
 clear hT hf s1 s2 s3 s7 s8 b19 b20 b21
 obtain ⟨s1, s2, s3, s7, s8, s19, s20, s21, s22⟩ := hKp
 have hf := hf1; clear hf1
 refine Fact.nx (hK8 _ _ ?_)
 refine Fact.cond_s s22 (fun hq => ?_) (fun hq => ?_)
 · (
 have hlt : i < q.size := by have h9 := of_decide_eq_true hq; omega
 have e5 : IntKind.i64.wrap ((i : Int) + 1 - 1) = (i : Int) := by rw [Fact.wrap_i64 (by omega) (by omega)]; omega
 have hsm := at_lt S i; have hsn := at_lt S (i + 1); have hun := un_le q S b i; have hus := un_s q S b i
 obtain ⟨A, c7, rfl, hcl⟩ := OI.at_ ho
 obtain ⟨ga, rfl, hcx⟩ := hcl i (un q S b i) (uns_get (Nat.lt_succ_self i))
 rw [uns_length] at s7
 have ho := ho
 skip
 obtain ⟨X, hX⟩ : ∃ X, at_ S i = X := ⟨_, rfl⟩
 obtain ⟨Y, hY⟩ : ∃ Y, at_ S (i + 1) = Y := ⟨_, rfl⟩
 obtain ⟨Z, hZ⟩ : ∃ Z, un q S b i = Z := ⟨_, rfl⟩
 rw [hX] at hsm hus; rw [hY] at hsn hus; rw [hZ] at hun hus hcx
 have e6 : IntKind.i64.wrap (X : Int) = (X : Int) := Fact.wrap_i64 (by omega) (by omega)
 have e7 : IntKind.i64.wrap (Y : Int) = (Y : Int) := Fact.wrap_i64 (by omega) (by omega)
 have HUS := Lib.hid hus; clear hus
 have HCL := Lib.hid hcl; clear hcl
 refine wp_skip ?_
 refine Fact.nx (hK7 _ _ ?_)
 refine wp_seq_k (fun K9 hK9 => ?_)
 refine wp_block ?_
 refine wp_seq_k (fun K10 hK10 => ?_)
 refine Fact.region ?_
 have b25 := hf.l 25 rfl
 have b26 := hf.l 26 rfl
 have b27 := hf.l 27 rfl
 have b28 := hf.l 28 rfl
 have b29 := hf.l 29 rfl
 refine Fact.p rfl fun K hK => ?_
 go_simp
 refine hK.out _ _ ?_; clear hK K
 refine Fact.p rfl fun K hK => ?_
 go_simp
 refine hK.out _ _ ?_; clear hK K
 refine Fact.p rfl fun K hK => ?_
 go_simp
 try simp (disch := omega) only [Fact.wrap_i64, Fact.wrap_u8, Fact.wrap_u32, Fact.wrap_u64]
 refine hK.out _ _ ?_; clear hK K
 refine Fact.p rfl fun K hK => ?_
 go_simp
 try rw [if_pos (by omega)]
 try rw [hatS]
 try simp only [hX]
 refine hK.out _ _ ?_; clear hK K
 refine Fact.p rfl fun K hK => ?_
 go_simp
 refine hK.out _ _ ?_; clear hK K
 refine Fact.p rfl fun K hK => ?_
 go_simp
 refine hK.out _ _ ?_; clear hK K
 refine Fact.nil ?_
 refine Fact.q hf (by simp only [Fact.G]) rfl fun fr1 hf1 hT => ?_
 have hKp : _ ∧ _ ∧ _ ∧ _ ∧ _ ∧ _ ∧ _ ∧ _ ∧ _ ∧ _ ∧ _ ∧ _ ∧ _ ∧ _ ∧ _ := ⟨hT 1, hT 2, hT 3, hT 7, hT 8, hT 9, hT 19, hT 20, hT 21, hT 22, hT 25, hT 26, hT 27, hT 28, hT 29⟩
 simp only [Fact.G, Nat.reduceEqDiff, Nat.reduceLT, hf.size, reduceIte, s1, s2, s3, s7, s8, s19, s20, s21, s22] at hKp
 clear hT hf s1 s2 s3 s7 s8 s19 s20 s21 s22 b25 b26 b27 b28 b29
 obtain ⟨s1, s2, s3, s7, s8, s9, s19, s20, s21, s22, s25, s26, s27, s28, s29⟩ := hKp
 have hf := hf1; clear hf1
 refine Fact.nx (hK10 _ _ ?_)
 refine wp_seq_k (fun K11 hK11 => ?_)
 refine wp_seq_k (fun K12 hK12 => ?_)
 refine Fact.region ?_
 have b30 := hf.l 30 rfl
 have b31 := hf.l 31 rfl
 have b32 := hf.l 32 rfl
 have b33 := hf.l 33 rfl
 have b34 := hf.l 34 rfl
 have b35 := hf.l 35 rfl
 refine Fact.p rfl fun K hK => ?_
 go_simp
 refine hK.out _ _ ?_; clear hK K
 refine Fact.p rfl fun K hK => ?_
 go_simp
 refine hK.out _ _ ?_; clear hK K
 refine Fact.p rfl fun K hK => ?_
 go_simp
 refine hK.out _ _ ?_; clear hK K
 refine Fact.p rfl fun K hK => ?_
 go_simp
 try simp (disch := omega) only [Fact.wrap_i64, Fact.wrap_u8, Fact.wrap_u32, Fact.wrap_u64]
 refine hK.out _ _ ?_; clear hK K
 refine Fact.p rfl fun K hK => ?_
 go_simp
 try rw [if_pos (by omega)]
 refine hK.out _ _ ?_; clear hK K
 refine Fact.p rfl fun K hK => ?_
 go_simp
 refine hK.out _ _ ?_; clear hK K
 refine Fact.p rfl fun K hK => ?_
 go_simp
 refine hK.out _ _ ?_; clear hK K
 refine Fact.nil ?_
 refine Fact.q hf (by simp only [Fact.G]) rfl fun fr1 hf1 hT => ?_
 have hKp : _ ∧ _ ∧ _ ∧ _ ∧ _ ∧ _ ∧ _ ∧ _ ∧ _ ∧ _ ∧ _ ∧ _ ∧ _ ∧ _ ∧ _ ∧ _ ∧ _ ∧ _ ∧ _ ∧ _ ∧ _ ∧ _ := ⟨hT 1, hT 2, hT 3, hT 7, hT 8, hT 9, hT 19, hT 20, hT 21, hT 22, hT 25, hT 26, hT 27, hT 28, hT 29, hT 30, hT 31, hT 32, hT 33, hT 34, hT 35, hT 36⟩
 simp only [Fact.G, Nat.reduceEqDiff, Nat.reduceLT, hf.size, reduceIte, s1, s2, s3, s7, s8, s9, s19, s20, s21, s22, s25, s26, s27, s28, s29] at hKp
 clear hT hf s1 s2 s3 s7 s8 s9 s19 s20 s21 s22 s25 s26 s27 s28 s29 b30 b31 b32 b33 b34 b35
 obtain ⟨s1, s2, s3, s7, s8, s9, s19, s20, s21, s22, s25, s26, s27, s28, s29, s30, s31, s32, s33, s34, s35, s36⟩ := hKp
 have hf := hf1; clear hf1
 refine Fact.nx (hK12 _ _ ?_)
 refine Fact.cond_s s36 (fun hq2 => ?_) (fun hq2 => ?_)
 · (
 have hb9 : at_ q i ≠ b := by simp at hq2; omega
 obtain ⟨N, hN⟩ : ∃ N, un q S b (i + 1) = N := ⟨_, rfl⟩
 have hNv : N = min (min (X + 1) (Y + 1)) (Z + 1) := by rw [← hN, HUS.out, if_neg hb9]
 have e8 : min (min ((X : Int) + 1) ((Y : Int) + 1)) ((Z : Int) + 1) = (N : Int) := by omega
 have E8 := fun W => min3 e8 W
 have HN := Lib.hid hN; clear e8 hN hNv
 refine Fact.region ?_
 have b37 := hf.l 37 rfl
 have b38 := hf.l 38 rfl
 refine Fact.p rfl fun K hK => ?_
 go_simp
 refine hK.out _ _ ?_; clear hK K
 refine Fact.p rfl fun K hK => ?_
 go_simp
 try simp (disch := omega) only [Fact.wrap_i64, Fact.wrap_u8, Fact.wrap_u32, Fact.wrap_u64]
 refine hK.out _ _ ?_; clear hK K
 refine Fact.p rfl fun K hK => ?_
 go_simp
 refine hK.out _ _ ?_; clear hK K
 refine Fact.nil ?_
 refine Fact.q hf (by simp only [Fact.G]) rfl fun fr1 hf1 hT => ?_
 have hKp : _ ∧ _ ∧ _ ∧ _ ∧ _ ∧ _ ∧ _ ∧ _ ∧ _ ∧ _ ∧ _ ∧ _ ∧ _ ∧ _ ∧ _ ∧ _ ∧ _ ∧ _ ∧ _ ∧ _ ∧ _ ∧ _ ∧ _ ∧ _ := ⟨hT 1, hT 2, hT 3, hT 7, hT 8, hT 9, hT 19, hT 20, hT 21, hT 22, hT 25, hT 26, hT 27, hT 28, hT 29, hT 30, hT 31, hT 32, hT 33, hT 34, hT 35, hT 36, hT 37, hT 38⟩
 simp only [Fact.G, Nat.reduceEqDiff, Nat.reduceLT, hf.size, reduceIte, s1, s2, s3, s7, s8, s19, s20, s21, s22, s25, s26, s27, s28, s29, s30, s31, s32, s33, s34, s35, s36] at hKp
 clear hT hf s1 s2 s3 s7 s8 s9 s19 s20 s21 s22 s25 s26 s27 s28 s29 s30 s31 s32 s33 s34 s35 s36 b37 b38
 obtain ⟨s1, s2, s3, s7, s8, s9, s19, s20, s21, s22, s25, s26, s27, s28, s29, s30, s31, s32, s33, s34, s35, s36, s37, s38⟩ := hKp
 have hf := hf1; clear hf1
 refine Fact.nx (hK11 _ _ ?_)
 refine Stab.todo_begin (n := 58) (Stab.OkOps.of (by kernel_rfl)) (fun hok => ?_)
 refine Stab.mvP (k := 0) (j := 16) s7 hf.size hok.out rfl rfl rfl (.inl rfl) [] (by kernel_rfl) (by kernel_rfl) ?_
 refine Stab.mvO (k := 1) s9 hf.size hok.out rfl rfl rfl (.inl rfl) (by kernel_rfl) ?_
 refine Stab.mvO (k := 2) s1 hf.size hok.out rfl rfl rfl (.inl rfl) (by kernel_rfl) ?_
 refine Stab.mvO (k := 3) s8 hf.size hok.out rfl rfl rfl (.inl rfl) (by kernel_rfl) ?_
 apply Stab.t 4 _ hf.size hok.out rfl
 · (
 intro fr1 w1 hh hd hk K hK
 refine Stab.op_plain (o := _) rfl rfl ?_
 have s41 := Stab.u 2 1 hd hk rfl [] (by kernel_rfl) rfl rfl rfl
 have s42 := Stab.u 3 0 hd hk rfl [] (by kernel_rfl) rfl rfl rfl
 clear hd
 go_simp
 try rw [if_pos (by omega)]
 try rw [hatS]
 try simp only [hY]
 exact hK.out _ rfl _ _ (Below.refl _ _) rfl)
 apply Stab.t 5 _ hf.size hok.out rfl
 · (
 intro fr1 w1 hh hd hk K hK
 refine Stab.op_plain (o := _) rfl rfl ?_
 have s43 := Stab.u 4 0 hd hk rfl [] (by kernel_rfl) rfl rfl rfl
 clear hd
 go_simp
 exact hK.out _ rfl _ _ (Below.refl _ _) rfl)
 apply Stab.t 6 _ hf.size hok.out rfl
 · (
 intro fr1 w1 hh hd hk K hK
 refine Stab.op_plain (o := _) rfl rfl ?_
 have s44 := Stab.u 5 0 hd hk rfl [] (by kernel_rfl) rfl rfl rfl
 clear hd
 go_simp
 try simp (disch := omega) only [Fact.wrap_i64, Fact.wrap_u8, Fact.wrap_u32, Fact.wrap_u64]
 exact hK.out _ rfl _ _ (Below.refl _ _) rfl)
 refine Stab.mvP (k := 7) (j := 16) s7 hf.size hok.out rfl rfl rfl (.inl rfl) [] (by kernel_rfl) (by kernel_rfl) ?_
 refine Stab.mvO (k := 8) s8 hf.size hok.out rfl rfl rfl (.inl rfl) (by kernel_rfl) ?_
 apply Stab.t 9 _ hf.size hok.out rfl
 · (
 intro fr1 w1 hh hd hk K hK
 refine Stab.op_plain (o := _) rfl rfl ?_
 have s47 := Stab.u 8 0 hd hk rfl [] (by kernel_rfl) rfl rfl rfl
 clear hd
 go_simp
 try simp (disch := omega) only [Fact.wrap_i64, Fact.wrap_u8, Fact.wrap_u32, Fact.wrap_u64]
 exact hK.out _ rfl _ _ (Below.refl _ _) rfl)
 apply Stab.t 10 _ hf.size hok.out rfl
 · (
 intro fr1 w1 hh hd hk K hK
 refine Stab.op_plain (o := _) rfl rfl ?_
 have s46 := Stab.u 7 2 hd hk rfl [] (by kernel_rfl) rfl rfl rfl
 have s48 := Stab.u 9 0 hd hk rfl [] (by kernel_rfl) rfl rfl rfl
 clear hd
 go_simp
 try rw [if_pos (by omega)]
 exact hK.out _ rfl _ _ (Below.refl _ _) rfl)
 apply Stab.t 11 _ hf.size hok.out rfl
 · (
 intro fr1 w1 hh hd hk K hK
 refine Stab.op_plain (o := _) rfl rfl ?_
 have s49 := Stab.u 10 0 hd hk rfl [] (by kernel_rfl) rfl rfl rfl
 clear hd
 have u1 := cell_later hh.ext hcx
 go_simp
 exact hK.out _ rfl _ _ (Below.refl _ _) rfl)
 apply Stab.t 12 _ hf.size hok.out rfl
 · (
 intro fr1 w1 hh hd hk K hK
 refine Stab.op_plain (o := _) rfl rfl ?_
 have s50 := Stab.u 11 0 hd hk rfl [] (by kernel_rfl) rfl rfl rfl
 clear hd
 go_simp
 try simp (disch := omega) only [Fact.wrap_i64, Fact.wrap_u8, Fact.wrap_u32, Fact.wrap_u64]
 exact hK.out _ rfl _ _ (Below.refl _ _) rfl)
 apply Stab.t 13 _ hf.size hok.out rfl
 · (
 intro fr1 w1 hh hd hk K hK
 refine Stab.op_plain (o := _) rfl rfl ?_
 have s40 := Stab.u 1 11 hd hk rfl [] (by kernel_rfl) rfl rfl rfl
 have s45 := Stab.u 6 6 hd hk rfl [] (by kernel_rfl) rfl rfl rfl
 have s51 := Stab.u 12 0 hd hk rfl [] (by kernel_rfl) rfl rfl rfl
 clear hd
 go_simp
 exact hK.out _ rfl _ _ (Below.refl _ _) rfl)
 refine Stab.todo_op (k := 14) (n := 58) (POne N) hf.size hok.out rfl (POne.stable N) ?_ ?_
 · (
 intro fr1 w1 hh hd hk K hK
 refine Stab.op_plain (o := _) rfl rfl ?_
 have s52 := Stab.u 13 0 hd hk rfl [] (by kernel_rfl) rfl rfl rfl
 clear hd
 go_simp
 exact hK.out _ rfl _ _ ((Below.refl _ _).alloc (Nat.le_refl _) _) ⟨_, rfl, one_cell _ N⟩)
 refine Tail.todo_tail (n := 58) (m := 15) (ws := [(15, 1, [14, 13]), (15, 2, [14, 13, 6, 5, 4]), (15, 3, [14, 13, 6, 5, 4]), (15, 4, [14, 13, 6, 5]), (15, 5, [14, 13, 6]), (15, 6, [14, 13]), (15, 7, [14, 13, 12, 11, 10]), (15, 8, [14, 13, 12, 11, 10, 9]), (15, 9, [14, 13, 12, 11, 10]), (15, 10, [14, 13, 12, 11]), (15, 11, [14, 13, 12]), (15, 12, [14, 13]), (15, 13, [14])]) (by kernel_rfl) hf.size hok.out rfl rfl (by kernel_rfl) (fun fr1 w1 hh hg => ?_)
 replace s1 := Stab.o hh (by kernel_rfl) s1
 replace s2 := Stab.o hh (by kernel_rfl) s2
 replace s3 := Stab.o hh (by kernel_rfl) s3
 replace s8 := Stab.o hh (by kernel_rfl) s8
 replace s9 := Stab.o hh (by kernel_rfl) s9
 replace s19 := Stab.o hh (by kernel_rfl) s19
 replace s20 := Stab.o hh (by kernel_rfl) s20
 replace s21 := Stab.o hh (by kernel_rfl) s21
 replace s22 := Stab.o hh (by kernel_rfl) s22
 replace s25 := Stab.o hh (by kernel_rfl) s25
 replace s26 := Stab.o hh (by kernel_rfl) s26
 replace s27 := Stab.o hh (by kernel_rfl) s27
 replace s28 := Stab.o hh (by kernel_rfl) s28
 replace s29 := Stab.o hh (by kernel_rfl) s29
 replace s30 := Stab.o hh (by kernel_rfl) s30
 replace s31 := Stab.o hh (by kernel_rfl) s31
 replace s32 := Stab.o hh (by kernel_rfl) s32
 replace s33 := Stab.o hh (by kernel_rfl) s33
 replace s34 := Stab.o hh (by kernel_rfl) s34
 replace s35 := Stab.o hh (by kernel_rfl) s35
 replace s36 := Stab.o hh (by kernel_rfl) s36
 replace s37 := Stab.o hh (by kernel_rfl) s37
 replace s38 := Stab.o hh (by kernel_rfl) s38
 have s39 := Tail.got_is 0 14 hg rfl rfl rfl rfl rfl
 have s40 := Tail.got_is 1 13 hg rfl rfl rfl rfl rfl
 have s41 := Tail.got_is 2 12 hg rfl rfl rfl rfl rfl
 have s42 := Tail.got_is 3 11 hg rfl rfl rfl rfl rfl
 have s43 := Tail.got_is 4 10 hg rfl rfl rfl rfl rfl
 have s44 := Tail.got_is 5 9 hg rfl rfl rfl rfl rfl
 have s45 := Tail.got_is 6 8 hg rfl rfl rfl rfl rfl
 have s46 := Tail.got_is 7 7 hg rfl rfl rfl rfl rfl
 have s47 := Tail.got_is 8 6 hg rfl rfl rfl rfl rfl
 have s48 := Tail.got_is 9 5 hg rfl rfl rfl rfl rfl
 have s49 := Tail.got_is 10 4 hg rfl rfl rfl rfl rfl
 have s50 := Tail.got_is 11 3 hg rfl rfl rfl rfl rfl
 have s51 := Tail.got_is 12 2 hg rfl rfl rfl rfl rfl
 have s52 := Tail.got_is 13 1 hg rfl rfl rfl rfl rfl
 obtain ⟨x53, s53, hp53⟩ := Tail.got_use (j := 14) (m := 0) hg rfl rfl rfl rfl rfl
 obtain ⟨b53, rfl, hc53⟩ := hp53
 have hf1 : Fact.Fr 58 fr1 := ⟨hh.size.trans hf.size, hh.defers.trans hf.defers⟩
 have hx := hh.ext
 clear hg hh hf hok s7
 have hf := hf1; clear hf1
 have b54 := hf.l 54 rfl
 refine Tail.seq_op rfl rfl (fun K hK => ?_)
 have ho0 := ho
 rw [uns_length] at ho0
 refine wp_app3 _ _ rfl rfl Wb.heap.size _ (uns q S b (i + 1)) N (Fact.eval_tmp s39) (own_later ho0 hx) b53 (Fact.eval_tmp s53) hc53 (by rw [uns_length]; omega) (by have := hx.size; omega) (fun v2 w2 ho3 hg3 hb3 => ?_)
 refine hK.out _ _ ?_; clear hK K
 refine Tail.seq_op rfl rfl (fun K hK => ?_)
 go_simp
 refine hK.out _ _ ?_; clear hK K
 refine Tail.seq_nil rfl ?_
 refine Fact.q hf (by simp only [Fact.G]) rfl fun fr1 hf1 hT => ?_
 have hKp : _ ∧ _ ∧ _ ∧ _ ∧ _ ∧ _ ∧ _ ∧ _ ∧ _ ∧ _ ∧ _ ∧ _ ∧ _ ∧ _ ∧ _ ∧ _ ∧ _ ∧ _ ∧ _ ∧ _ ∧ _ ∧ _ ∧ _ ∧ _ ∧ _ ∧ _ ∧ _ ∧ _ ∧ _ ∧ _ ∧ _ ∧ _ ∧ _ ∧ _ ∧ _ ∧ _ ∧ _ ∧ _ ∧ _ ∧ _ := ⟨hT 1, hT 2, hT 3, hT 7, hT 8, hT 9, hT 19, hT 20, hT 21, hT 22, hT 25, hT 26, hT 27, hT 28, hT 29, hT 30, hT 31, hT 32, hT 33, hT 34, hT 35, hT 36, hT 37, hT 38, hT 39, hT 40, hT 41, hT 42, hT 43, hT 44, hT 45, hT 46, hT 47, hT 48, hT 49, hT 50, hT 51, hT 52, hT 53, hT 54⟩
 simp only [Fact.G, Nat.reduceEqDiff, Nat.reduceLT, hf.size, reduceIte, s1, s2, s3, s8, s9, s19, s20, s21, s22, s25, s26, s27, s28, s29, s30, s31, s32, s33, s34, s35, s36, s37, s38, s39, s40, s41, s42, s43, s44, s45, s46, s47, s48, s49, s50, s51, s52, s53] at hKp
 clear hT hf s1 s2 s3 s8 s9 s19 s20 s21 s22 s25 s26 s27 s28 s29 s30 s31 s32 s33 s34 s35 s36 s37 s38 s39 s40 s41 s42 s43 s44 s45 s46 s47 s48 s49 s50 s51 s52 s53 b54
 obtain ⟨s1, s2, s3, s7, s8, s9, s19, s20, s21, s22, s25, s26, s27, s28, s29, s30, s31, s32, s33, s34, s35, s36, s37, s38, s39, s40, s41, s42, s43, s44, s45, s46, s47, s48, s49, s50, s51, s52, s53, s54⟩ := hKp
 have hf := hf1; clear hf1
 refine Fact.block_normal ?_
 refine Fact.nx (hK9 _ _ ?_)
 refine Fact.region ?_
 have b23 := hf.l 23 rfl
 have b24 := hf.l 24 rfl
 refine Fact.p rfl fun K hK => ?_
 go_simp
 refine hK.out _ _ ?_; clear hK K
 refine Fact.p rfl fun K hK => ?_
 go_simp
 try simp (disch := omega) only [Fact.wrap_i64, Fact.wrap_u8, Fact.wrap_u32, Fact.wrap_u64]
 refine hK.out _ _ ?_; clear hK K
 refine Fact.p rfl fun K hK => ?_
 go_simp
 refine hK.out _ _ ?_; clear hK K
 refine Fact.nil ?_
 refine Fact.q hf (by simp only [Fact.G]) rfl fun fr1 hf1 hT => ?_
 have hKp : _ ∧ _ ∧ _ ∧ _ ∧ _ ∧ _ ∧ _ ∧ _ ∧ _ ∧ _ ∧ _ ∧ _ ∧ _ ∧ _ ∧ _ ∧ _ ∧ _ ∧ _ ∧ _ ∧ _ ∧ _ ∧ _ ∧ _ ∧ _ ∧ _ ∧ _ ∧ _ ∧ _ ∧ _ ∧ _ ∧ _ ∧ _ ∧ _ ∧ _ ∧ _ ∧ _ ∧ _ ∧ _ ∧ _ ∧ _ ∧ _ ∧ _ := ⟨hT 1, hT 2, hT 3, hT 7, hT 8, hT 9, hT 19, hT 20, hT 21, hT 22, hT 23, hT 24, hT 25, hT 26, hT 27, hT 28, hT 29, hT 30, hT 31, hT 32, hT 33, hT 34, hT 35, hT 36, hT 37, hT 38, hT 39, hT 40, hT 41, hT 42, hT 43, hT 44, hT 45, hT 46, hT 47, hT 48, hT 49, hT 50, hT 51, hT 52, hT 53, hT 54⟩
 simp only [Fact.G, Nat.reduceEqDiff, Nat.reduceLT, hf.size, reduceIte, s1, s2, s3, s7, s9, s19, s20, s21, s22, s25, s26, s27, s28, s29, s30, s31, s32, s33, s34, s35, s36, s37, s38, s39, s40, s41, s42, s43, s44, s45, s46, s47, s48, s49, s50, s51, s52, s53, s54] at hKp
 clear hT hf s1 s2 s3 s7 s8 s9 s19 s20 s21 s22 s25 s26 s27 s28 s29 s30 s31 s32 s33 s34 s35 s36 s37 s38 s39 s40 s41 s42 s43 s44 s45 s46 s47 s48 s49 s50 s51 s52 s53 s54 b23 b24
 obtain ⟨s1, s2, s3, s7, s8, s9, s19, s20, s21, s22, s23, s24, s25, s26, s27, s28, s29, s30, s31, s32, s33, s34, s35, s36, s37, s38, s39, s40, s41, s42, s43, s44, s45, s46, s47, s48, s49, s50, s51, s52, s53, s54⟩ := hKp
 have hf := hf1; clear hf1
 refine Fact.then_normal ?_
 exact ⟨_, by have := HK.out; omega, i + 1, _, rfl, by omega, hf, s1, s2, s3, s7, by rw [s8]; rfl, by rw [uns_succ, HN.out]; exact ho3, (hb.trans (hx.mono (by omega))).trans hb3⟩)
 · (
 have hb9 : at_ q i = b := by simp at hq2; omega
 obtain ⟨N, hN⟩ : ∃ N, un q S b (i + 1) = N := ⟨_, rfl⟩
 have hNv : N = min (min (X + 0) (Y + 1)) (Z + 1) := by rw [← hN, HUS.out, if_pos hb9]
 have e8 : min (min (X : Int) ((Y : Int) + 1)) ((Z : Int) + 1) = (N : Int) := by omega
 have E8 := fun W => min3 e8 W
 have HN := Lib.hid hN; clear e8 hN hNv
 refine wp_skip ?_
 refine Fact.nx (hK11 _ _ ?_)
 refine Stab.todo_begin (n := 58) (Stab.OkOps.of (by kernel_rfl)) (fun hok => ?_)
 refine Stab.mvP (k := 0) (j := 16) s7 hf.size hok.out rfl rfl rfl (.inl rfl) [] (by kernel_rfl) (by kernel_rfl) ?_
 refine Stab.mvO (k := 1) s9 hf.size hok.out rfl rfl rfl (.inl rfl) (by kernel_rfl) ?_
 refine Stab.mvO (k := 2) s1 hf.size hok.out rfl rfl rfl (.inl rfl) (by kernel_rfl) ?_
 refine Stab.mvO (k := 3) s8 hf.size hok.out rfl rfl rfl (.inl rfl) (by kernel_rfl) ?_
 apply Stab.t 4 _ hf.size hok.out rfl
 · (
 intro fr1 w1 hh hd hk K hK
 refine Stab.op_plain (o := _) rfl rfl ?_
 have s41 := Stab.u 2 1 hd hk rfl [] (by kernel_rfl) rfl rfl rfl
 have s42 := Stab.u 3 0 hd hk rfl [] (by kernel_rfl) rfl rfl rfl
 clear hd
 go_simp
 try rw [if_pos (by omega)]
 try rw [hatS]
 try simp only [hY]
 exact hK.out _ rfl _ _ (Below.refl _ _) rfl)
 apply Stab.t 5 _ hf.size hok.out rfl
 · (
 intro fr1 w1 hh hd hk K hK
 refine Stab.op_plain (o := _) rfl rfl ?_
 have s43 := Stab.u 4 0 hd hk rfl [] (by kernel_rfl) rfl rfl rfl
 clear hd
 go_simp
 exact hK.out _ rfl _ _ (Below.refl _ _) rfl)
 apply Stab.t 6 _ hf.size hok.out rfl
 · (
 intro fr1 w1 hh hd hk K hK
 refine Stab.op_plain (o := _) rfl rfl ?_
 have s44 := Stab.u 5 0 hd hk rfl [] (by kernel_rfl) rfl rfl rfl
 clear hd
 go_simp
 try simp (disch := omega) only [Fact.wrap_i64, Fact.wrap_u8, Fact.wrap_u32, Fact.wrap_u64]
 exact hK.out _ rfl _ _ (Below.refl _ _) rfl)
 refine Stab.mvP (k := 7) (j := 16) s7 hf.size hok.out rfl rfl rfl (.inl rfl) [] (by kernel_rfl) (by kernel_rfl) ?_
 refine Stab.mvO (k := 8) s8 hf.size hok.out rfl rfl rfl (.inl rfl) (by kernel_rfl) ?_
 apply Stab.t 9 _ hf.size hok.out rfl
 · (
 intro fr1 w1 hh hd hk K hK
 refine Stab.op_plain (o := _) rfl rfl ?_
 have s47 := Stab.u 8 0 hd hk rfl [] (by kernel_rfl) rfl rfl rfl
 clear hd
 go_simp
 try simp (disch := omega) only [Fact.wrap_i64, Fact.wrap_u8, Fact.wrap_u32, Fact.wrap_u64]
 exact hK.out _ rfl _ _ (Below.refl _ _) rfl)
 apply Stab.t 10 _ hf.size hok.out rfl
 · (
 intro fr1 w1 hh hd hk K hK
 refine Stab.op_plain (o := _) rfl rfl ?_
 have s46 := Stab.u 7 2 hd hk rfl [] (by kernel_rfl) rfl rfl rfl
 have s48 := Stab.u 9 0 hd hk rfl [] (by kernel_rfl) rfl rfl rfl
 clear hd
 go_simp
 try rw [if_pos (by omega)]
 exact hK.out _ rfl _ _ (Below.refl _ _) rfl)
 apply Stab.t 11 _ hf.size hok.out rfl
 · (
 intro fr1 w1 hh hd hk K hK
 refine Stab.op_plain (o := _) rfl rfl ?_
 have s49 := Stab.u 10 0 hd hk rfl [] (by kernel_rfl) rfl rfl rfl
 clear hd
 have u1 := cell_later hh.ext hcx
 go_simp
 exact hK.out _ rfl _ _ (Below.refl _ _) rfl)
 apply Stab.t 12 _ hf.size hok.out rfl
 · (
 intro fr1 w1 hh hd hk K hK
 refine Stab.op_plain (o := _) rfl rfl ?_
 have s50 := Stab.u 11 0 hd hk rfl [] (by kernel_rfl) rfl rfl rfl
 clear hd
 go_simp
 try simp (disch := omega) only [Fact.wrap_i64, Fact.wrap_u8, Fact.wrap_u32, Fact.wrap_u64]
 exact hK.out _ rfl _ _ (Below.refl _ _) rfl)
 apply Stab.t 13 _ hf.size hok.out rfl
 · (
 intro fr1 w1 hh hd hk K hK
 refine Stab.op_plain (o := _) rfl rfl ?_
 have s40 := Stab.u 1 11 hd hk rfl [] (by kernel_rfl) rfl rfl rfl
 have s45 := Stab.u 6 6 hd hk rfl [] (by kernel_rfl) rfl rfl rfl
 have s51 := Stab.u 12 0 hd hk rfl [] (by kernel_rfl) rfl rfl rfl
 clear hd
 go_simp
 exact hK.out _ rfl _ _ (Below.refl _ _) rfl)
 refine Stab.todo_op (k := 14) (n := 58) (POne N) hf.size hok.out rfl (POne.stable N) ?_ ?_
 · (
 intro fr1 w1 hh hd hk K hK
 refine Stab.op_plain (o := _) rfl rfl ?_
 have s52 := Stab.u 13 0 hd hk rfl [] (by kernel_rfl) rfl rfl rfl
 clear hd
 go_simp
 exact hK.out _ rfl _ _ ((Below.refl _ _).alloc (Nat.le_refl _) _) ⟨_, rfl, one_cell _ N⟩)
 refine Tail.todo_tail (n := 58) (m := 15) (ws := [(15, 1, [14, 13]), (15, 2, [14, 13, 6, 5, 4]), (15, 3, [14, 13, 6, 5, 4]), (15, 4, [14, 13, 6, 5]), (15, 5, [14, 13, 6]), (15, 6, [14, 13]), (15, 7, [14, 13, 12, 11, 10]), (15, 8, [14, 13, 12, 11, 10, 9]), (15, 9, [14, 13, 12, 11, 10]), (15, 10, [14, 13, 12, 11]), (15, 11, [14, 13, 12]), (15, 12, [14, 13]), (15, 13, [14])]) (by kernel_rfl) hf.size hok.out rfl rfl (by kernel_rfl) (fun fr1 w1 hh hg => ?_)
 replace s1 := Stab.o hh (by kernel_rfl) s1
 replace s2 := Stab.o hh (by kernel_rfl) s2
 replace s3 := Stab.o hh (by kernel_rfl) s3
 replace s8 := Stab.o hh (by kernel_rfl) s8
 replace s9 := Stab.o hh (by kernel_rfl) s9
 replace s19 := Stab.o hh (by kernel_rfl) s19
 replace s20 := Stab.o hh (by kernel_rfl) s20
 replace s21 := Stab.o hh (by kernel_rfl) s21
 replace s22 := Stab.o hh (by kernel_rfl) s22
 replace s25 := Stab.o hh (by kernel_rfl) s25
 replace s26 := Stab.o hh (by kernel_rfl) s26
 replace s27 := Stab.o hh (by kernel_rfl) s27
 replace s28 := Stab.o hh (by kernel_rfl) s28
 replace s29 := Stab.o hh (by kernel_rfl) s29
 replace s30 := Stab.o hh (by kernel_rfl) s30
 replace s31 := Stab.o hh (by kernel_rfl) s31
 replace s32 := Stab.o hh (by kernel_rfl) s32
 replace s33 := Stab.o hh (by kernel_rfl) s33
 replace s34 := Stab.o hh (by kernel_rfl) s34
 replace s35 := Stab.o hh (by kernel_rfl) s35
 replace s36 := Stab.o hh (by kernel_rfl) s36
 have s39 := Tail.got_is 0 14 hg rfl rfl rfl rfl rfl
 have s40 := Tail.got_is 1 13 hg rfl rfl rfl rfl rfl
 have s41 := Tail.got_is 2 12 hg rfl rfl rfl rfl rfl
 have s42 := Tail.got_is 3 11 hg rfl rfl rfl rfl rfl
 have s43 := Tail.got_is 4 10 hg rfl rfl rfl rfl rfl
 have s44 := Tail.got_is 5 9 hg rfl rfl rfl rfl rfl
 have s45 := Tail.got_is 6 8 hg rfl rfl rfl rfl rfl
 have s46 := Tail.got_is 7 7 hg rfl rfl rfl rfl rfl
 have s47 := Tail.got_is 8 6 hg rfl rfl rfl rfl rfl
 have s48 := Tail.got_is 9 5 hg rfl rfl rfl rfl rfl
 have s49 := Tail.got_is 10 4 hg rfl rfl rfl rfl rfl
 have s50 := Tail.got_is 11 3 hg rfl rfl rfl rfl rfl
 have s51 := Tail.got_is 12 2 hg rfl rfl rfl rfl rfl
 have s52 := Tail.got_is 13 1 hg rfl rfl rfl rfl rfl
 obtain ⟨x53, s53, hp53⟩ := Tail.got_use (j := 14) (m := 0) hg rfl rfl rfl rfl rfl
 obtain ⟨b53, rfl, hc53⟩ := hp53
 have hf1 : Fact.Fr 58 fr1 := ⟨hh.size.trans hf.size, hh.defers.trans hf.defers⟩
 have hx := hh.ext
 clear hg hh hf hok s7
 have hf := hf1; clear hf1
 have b54 := hf.l 54 rfl
 refine Tail.seq_op rfl rfl (fun K hK => ?_)
 have ho0 := ho
 rw [uns_length] at ho0
 refine wp_app3 _ _ rfl rfl Wb.heap.size _ (uns q S b (i + 1)) N (Fact.eval_tmp s39) (own_later ho0 hx) b53 (Fact.eval_tmp s53) hc53 (by rw [uns_length]; omega) (by have := hx.size; omega) (fun v2 w2 ho3 hg3 hb3 => ?_)
 refine hK.out _ _ ?_; clear hK K
 refine Tail.seq_op rfl rfl (fun K hK => ?_)
 go_simp
 refine hK.out _ _ ?_; clear hK K
 refine Tail.seq_nil rfl ?_
 refine Fact.q hf (by simp only [Fact.G]) rfl fun fr1 hf1 hT => ?_
 have hKp : _ ∧ _ ∧ _ ∧ _ ∧ _ ∧ _ ∧ _ ∧ _ ∧ _ ∧ _ ∧ _ ∧ _ ∧ _ ∧ _ ∧ _ ∧ _ ∧ _ ∧ _ ∧ _ ∧ _ ∧ _ ∧ _ ∧ _ ∧ _ ∧ _ ∧ _ ∧ _ ∧ _ ∧ _ ∧ _ ∧ _ ∧ _ ∧ _ ∧ _ ∧ _ ∧ _ ∧ _ ∧ _ := ⟨hT 1, hT 2, hT 3, hT 7, hT 8, hT 9, hT 19, hT 20, hT 21, hT 22, hT 25, hT 26, hT 27, hT 28, hT 29, hT 30, hT 31, hT 32, hT 33, hT 34, hT 35, hT 36, hT 39, hT 40, hT 41, hT 42, hT 43, hT 44, hT 45, hT 46, hT 47, hT 48, hT 49, hT 50, hT 51, hT 52, hT 53, hT 54⟩
 simp only [Fact.G, Nat.reduceEqDiff, Nat.reduceLT, hf.size, reduceIte, s1, s2, s3, s8, s9, s19, s20, s21, s22, s25, s26, s27, s28, s29, s30, s31, s32, s33, s34, s35, s36, s39, s40, s41, s42, s43, s44, s45, s46, s47, s48, s49, s50, s51, s52, s53] at hKp
 clear hT hf s1 s2 s3 s8 s9 s19 s20 s21 s22 s25 s26 s27 s28 s29 s30 s31 s32 s33 s34 s35 s36 s39 s40 s41 s42 s43 s44 s45 s46 s47 s48 s49 s50 s51 s52 s53 b54
 obtain ⟨s1, s2, s3, s7, s8, s9, s19, s20, s21, s22, s25, s26, s27, s28, s29, s30, s31, s32, s33, s34, s35, s36, s39, s40, s41, s42, s43, s44, s45, s46, s47, s48, s49, s50, s51, s52, s53, s54⟩ := hKp
 have hf := hf1; clear hf1
 refine Fact.block_normal ?_
 refine Fact.nx (hK9 _ _ ?_)
 refine Fact.region ?_
 have b23 := hf.l 23 rfl
 have b24 := hf.l 24 rfl
 refine Fact.p rfl fun K hK => ?_
 go_simp
 refine hK.out _ _ ?_; clear hK K
 refine Fact.p rfl fun K hK => ?_
 go_simp
 try simp (disch := omega) only [Fact.wrap_i64, Fact.wrap_u8, Fact.wrap_u32, Fact.wrap_u64]
 refine hK.out _ _ ?_; clear hK K
 refine Fact.p rfl fun K hK => ?_
 go_simp
 refine hK.out _ _ ?_; clear hK K
 refine Fact.nil ?_
 refine Fact.q hf (by simp only [Fact.G]) rfl fun fr1 hf1 hT => ?_
 have hKp : _ ∧ _ ∧ _ ∧ _ ∧ _ ∧ _ ∧ _ ∧ _ ∧ _ ∧ _ ∧ _ ∧ _ ∧ _ ∧ _ ∧ _ ∧ _ ∧ _ ∧ _ ∧ _ ∧ _ ∧ _ ∧ _ ∧ _ ∧ _ ∧ _ ∧ _ ∧ _ ∧ _ ∧ _ ∧ _ ∧ _ ∧ _ ∧ _ ∧ _ ∧ _ ∧ _ ∧ _ ∧ _ ∧ _ ∧ _ := ⟨hT 1, hT 2, hT 3, hT 7, hT 8, hT 9, hT 19, hT 20, hT 21, hT 22, hT 23, hT 24, hT 25, hT 26, hT 27, hT 28, hT 29, hT 30, hT 31, hT 32, hT 33, hT 34, hT 35, hT 36, hT 39, hT 40, hT 41, hT 42, hT 43, hT 44, hT 45, hT 46, hT 47, hT 48, hT 49, hT 50, hT 51, hT 52, hT 53, hT 54⟩
 simp only [Fact.G, Nat.reduceEqDiff, Nat.reduceLT, hf.size, reduceIte, s1, s2, s3, s7, s9, s19, s20, s21, s22, s25, s26, s27, s28, s29, s30, s31, s32, s33, s34, s35, s36, s39, s40, s41, s42, s43, s44, s45, s46, s47, s48, s49, s50, s51, s52, s53, s54] at hKp
 clear hT hf s1 s2 s3 s7 s8 s9 s19 s20 s21 s22 s25 s26 s27 s28 s29 s30 s31 s32 s33 s34 s35 s36 s39 s40 s41 s42 s43 s44 s45 s46 s47 s48 s49 s50 s51 s52 s53 s54 b23 b24
 obtain ⟨s1, s2, s3, s7, s8, s9, s19, s20, s21, s22, s23, s24, s25, s26, s27, s28, s29, s30, s31, s32, s33, s34, s35, s36, s39, s40, s41, s42, s43, s44, s45, s46, s47, s48, s49, s50, s51, s52, s53, s54⟩ := hKp
 have hf := hf1; clear hf1
 refine Fact.then_normal ?_
 exact ⟨_, by have := HK.out; omega, i + 1, _, rfl, by omega, hf, s1, s2, s3, s7, by rw [s8]; rfl, by rw [uns_succ, HN.out]; exact ho3, (hb.trans (hx.mono (by omega))).trans hb3⟩))
 · (
 have hie : i = q.size := by have h9 := of_decide_eq_false hq; omega
 subst hie
 have hrd := OI.reads ho (by rw [uns_length]; omega) (fun j hj => by rw [uns_length] at hj; exact uns_get hj)
 rw [uns_length] at hrd
 refine wp_exit ?_
 refine Fact.then_exit ?_
 refine Fact.then_exit ?_
 refine Fact.block_exit ?_
 refine Fact.nx (hK5 _ _ ?_)
 refine wp_seq_k (fun K13 hK13 => ?_)
 refine Fact.region ?_
 have b55 := hf.l 55 rfl
 have b56 := hf.l 56 rfl
 have b57 := hf.l 57 rfl
 refine Fact.p rfl fun K hK => ?_
 go_simp
 refine hK.out _ _ ?_; clear hK K
 refine Fact.p rfl fun K hK => ?_
 go_simp
 refine hK.out _ _ ?_; clear hK K
 refine Fact.p rfl fun K hK => ?_
 go_simp
 go_at_call 29; refine (rstate29 q k hq0 hk3 (q.size + 1) (by omega) v (un q S b) (fun j hj => by have := un_le q S b j; omega) wr hrd).mono ?_; rintro e w9 ⟨rfl, h9⟩
 rw [step_caps q S k b hos]
 dsimp only
 refine hK.out _ _ ?_; clear hK K
 refine Fact.p rfl fun K hK => ?_
 go_simp
 refine hK.out _ _ ?_; clear hK K
 refine Fact.nil ?_
 refine Fact.q hf (by simp only [Fact.G]) rfl fun fr1 hf1 hT => ?_
 have hKp := hT 6
 simp only [Fact.G, Nat.reduceEqDiff, Nat.reduceLT, hf.size, reduceIte] at hKp
 clear hT hf s1 s2 s3 s7 s8 s19 s20 s21 s22 b55 b56 b57
 have s6 := hKp; clear hKp
 have hf := hf1; clear hf1
 refine Fact.nx (hK13 _ _ ?_)
 refine wp_ret ?_
 exact Fact.ret1 rfl hf s6 ⟨rfl, hb0.trans ((h1.trans ((hb.trans (h9.mono hb.size)).mono h1.size)).mono hb0.size)⟩))
theorem rstep17 (q : ByteArray) (k : Nat) (hq0 : q.size ≤ 255) (hk3 : k ≤ 3) (S : ByteArray) (b : Nat) (w : World) : Calls Try.prog 17 #[.agg #[.string q, .int .i64 k], .string S, .int .u8 b] w fun e w1 => e = .returned (.string (stepS q k S b)) ∧ Below w.heap.size w w1 := by
  cases h : okS q k S with
  | true => exact rstep17y q k hq0 hk3 S b h w
  | false => exact rstep17n q k hq0 hk3 S b h w

set_option maxHeartbeats 4000000 in
set_option maxRecDepth 100000 in
theorem rread19 (q : ByteArray) (k : Nat) (hq0 : q.size ≤ 255) (hk3 : k ≤ 3) (S t : ByteArray) (ht9 : t.size ≤ 1000000) (w : World) : Calls Try.prog 19 #[.agg #[.string q, .int .i64 k], .string S, .string t] w fun e w1 => e = .returned (.string (readS q k S t)) ∧ Below w.heap.size w w1 := by
 refine calls_of_wp Try.func19 rfl ?_
 refine Fact.enter (n := 21) (by kernel_rfl) (fun fr hf hT => ?_)
 have s0 := hT 0 _ rfl
 have s1 := hT 1 _ rfl
 have s2 := hT 2 _ rfl
 clear hT
 obtain ⟨W0, hW0⟩ : ∃ W0, w.alloc (.cells #[.string q, .int .i64 k] 31) = W0 := ⟨_, rfl⟩
 obtain ⟨x0, x1, hb0⟩ := auto_cells w q k W0 hW0
 refine wp_seq_k (fun K1 hK1 => ?_)
 refine Fact.region ?_
 refine Fact.p rfl fun K hK => ?_
 go_simp
 refine hK.out _ _ ?_; clear hK K
 refine Fact.p rfl fun K hK => ?_
 go_simp
 refine hK.out _ _ ?_; clear hK K
 refine Fact.nil ?_
 refine Fact.q hf (by simp only [Fact.G]) rfl fun fr1 hf1 hT => ?_
 have hKp : _ ∧ _ ∧ _ ∧ _ := ⟨hT 1, hT 2, hT 3, hT 6⟩
 simp only [Fact.G, Nat.reduceEqDiff, Nat.reduceLT, hf.size, reduceIte, s1, s2] at hKp
 clear hT hf s0 s1 s2
 obtain ⟨s1, s2, s3, s6⟩ := hKp
 have hf := hf1; clear hf1
 refine Fact.nx (hK1 _ _ ?_)
 try rw [hW0]
 clear hW0
 refine wp_seq_k (fun K2 hK2 => ?_)
 refine wp_seq_k (fun K3 hK3 => ?_)
 refine Fact.region ?_
 refine Fact.p rfl fun K hK => ?_
 go_simp
 refine hK.out _ _ ?_; clear hK K
 refine Fact.nil ?_
 refine Fact.q hf (by simp only [Fact.G]) rfl fun fr1 hf1 hT => ?_
 have hKp : _ ∧ _ ∧ _ ∧ _ ∧ _ := ⟨hT 1, hT 2, hT 3, hT 6, hT 7⟩
 simp only [Fact.G, Nat.reduceEqDiff, Nat.reduceLT, hf.size, reduceIte, s1, s2, s3, s6] at hKp
 clear hT hf s1 s2 s3 s6
 obtain ⟨s1, s2, s3, s6, s7⟩ := hKp
 have hf := hf1; clear hf1
 refine Fact.nx (hK3 _ _ ?_)
 refine wp_block ?_
 refine wp_loop_ghost (fun gk fr wr => ∃ (i : Nat) (X : ByteArray), gk = t.size - i ∧ i ≤ t.size ∧ X = readN q k S t i ∧ Fact.Fr 21 fr ∧ fr.tmps[1]? = some (.string X) ∧ fr.tmps[2]? = some (.string t) ∧ fr.tmps[3]? = some (.pointer (some ⟨w.heap.size, 0, none⟩)) ∧ fr.tmps[7]? = some (.int .i64 i) ∧ Below W0.heap.size W0 wr) (t.size) ?_ ?_
 · (
 exact ⟨0, _, rfl, Nat.zero_le _, rfl, hf, s1, s2, s3, s7, Below.refl _ _⟩)
 · (
 clear hf s1 s2 s3 s6 s7
 rintro gk fr wr ⟨i, X, hk, hi, hX, hf, s1, s2, s3, s7, hb⟩
 have HK := Lib.hid hk; have HX := Lib.hid hX; clear hk hX
 have z0 := cell_later hb x0; have z1 := cell_later hb x1
 refine wp_seq_k (fun K4 hK4 => ?_)
 refine wp_seq_k (fun K5 hK5 => ?_)
 refine Fact.region ?_
 have b8 := hf.l 8 rfl
 have b9 := hf.l 9 rfl
 have b10 := hf.l 10 rfl
 refine Fact.p rfl fun K hK => ?_
 go_simp
 refine hK.out _ _ ?_; clear hK K
 refine Fact.p rfl fun K hK => ?_
 go_simp
 refine hK.out _ _ ?_; clear hK K
 refine Fact.p rfl fun K hK => ?_
 go_simp
 refine hK.out _ _ ?_; clear hK K
 refine Fact.p rfl fun K hK => ?_
 go_simp
 refine hK.out _ _ ?_; clear hK K
 refine Fact.nil ?_
 refine Fact.q hf (by simp only [Fact.G]) rfl fun fr1 hf1 hT => ?_
 have hKp : _ ∧ _ ∧ _ ∧ _ ∧ _ ∧ _ ∧ _ ∧ _ := ⟨hT 1, hT 2, hT 3, hT 7, hT 8, hT 9, hT 10, hT 11⟩
 simp only [Fact.G, Nat.reduceEqDiff, Nat.reduceLT, hf.size, reduceIte, s1, s2, s3, s7] at hKp
 clear hT hf s1 s2 s3 s7 b8 b9 b10
 obtain ⟨s1, s2, s3, s7, s8, s9, s10, s11⟩ := hKp
 have hf := hf1; clear hf1
 refine Fact.nx (hK5 _ _ ?_)
 refine Fact.cond_s s11 (fun hq => ?_) (fun hq => ?_)
 · (
 have hlt : i < t.size := by have h9 := of_decide_eq_true hq; omega
 have hatt : ∀ (j : Nat) (h : j < t.size), t[j].toNat = at_ t j := fun j h => (at_get h).symm
 refine wp_skip ?_
 refine Fact.nx (hK4 _ _ ?_)
 refine wp_seq_k (fun K6 hK6 => ?_)
 refine wp_block ?_
 refine Stab.todo_begin (n := 21) (Stab.OkOps.of (by kernel_rfl)) (fun hok => ?_)
 apply Stab.t 0 _ hf.size hok.out rfl
 · (
 intro fr1 w1 hh hd hk K hK
 refine Stab.op_plain (o := _) rfl rfl ?_
 have s3 := Stab.o hh (by kernel_rfl) s3
 clear hd
 have u0 := cell_later hh.ext z0; have u1 := cell_later hh.ext z1
 go_simp
 exact hK.out _ rfl _ _ (Below.refl _ _) rfl)
 refine Stab.mvP (k := 1) (j := 6) s1 hf.size hok.out rfl rfl rfl (.inl rfl) [] (by kernel_rfl) (by kernel_rfl) ?_
 refine Stab.mvO (k := 2) s2 hf.size hok.out rfl rfl rfl (.inl rfl) (by kernel_rfl) ?_
 refine Stab.mvO (k := 3) s7 hf.size hok.out rfl rfl rfl (.inl rfl) (by kernel_rfl) ?_
 apply Stab.t 4 _ hf.size hok.out rfl
 · (
 intro fr1 w1 hh hd hk K hK
 refine Stab.op_plain (o := _) rfl rfl ?_
 have s16 := Stab.u 2 1 hd hk rfl [] (by kernel_rfl) rfl rfl rfl
 have s17 := Stab.u 3 0 hd hk rfl [] (by kernel_rfl) rfl rfl rfl
 clear hd
 go_simp
 try rw [if_pos (by omega)]
 exact hK.out _ rfl _ _ (Below.refl _ _) rfl)
 apply Stab.t 5 _ hf.size hok.out rfl
 · (
 intro fr1 w1 hh hd hk K hK
 refine Stab.op_plain (o := _) rfl rfl ?_
 have s14 := Stab.u 0 4 hd hk rfl [] (by kernel_rfl) rfl rfl rfl
 have s15 := Stab.u 1 3 hd hk rfl [] (by kernel_rfl) rfl rfl rfl
 have s18 := Stab.u 4 0 hd hk rfl [] (by kernel_rfl) rfl rfl rfl
 clear hd
 go_simp
 go_at_call 17; refine (rstep17 q k hq0 hk3 X (at_ t i) w1).mono ?_; rintro e w2 ⟨rfl, hb⟩
 exact hK.out _ rfl _ _ hb rfl)
 refine Stab.mvN (k := 6) (j := 5) (m := 0) hf.size hok.out rfl rfl rfl (.inr rfl) rfl [] (by kernel_rfl) rfl rfl rfl ?_
 refine Stab.todo_facts (n := 21) (by kernel_rfl) hf.size hok.out rfl (fun fr1 w1 hh hg => ?_)
 clear s1; have s1 := Stab.e 6 0 hg rfl rfl rfl rfl
 replace s2 := Stab.o hh (by kernel_rfl) s2
 replace s3 := Stab.o hh (by kernel_rfl) s3
 replace s7 := Stab.o hh (by kernel_rfl) s7
 replace s8 := Stab.o hh (by kernel_rfl) s8
 replace s9 := Stab.o hh (by kernel_rfl) s9
 replace s10 := Stab.o hh (by kernel_rfl) s10
 replace s11 := Stab.o hh (by kernel_rfl) s11
 have s14 := Stab.e 0 6 hg rfl rfl rfl rfl
 have s15 := Stab.e 1 5 hg rfl rfl rfl rfl
 have s16 := Stab.e 2 4 hg rfl rfl rfl rfl
 have s17 := Stab.e 3 3 hg rfl rfl rfl rfl
 have s18 := Stab.e 4 2 hg rfl rfl rfl rfl
 have s19 := Stab.e 5 1 hg rfl rfl rfl rfl
 have hf1 : Fact.Fr 21 fr1 := ⟨hh.size.trans hf.size, hh.defers.trans hf.defers⟩
 have hx := hh.ext
 clear hg hh hf hok
 have hf := hf1; clear hf1
 refine Fact.block_normal ?_
 refine Fact.nx (hK6 _ _ ?_)
 refine Fact.region ?_
 have b12 := hf.l 12 rfl
 have b13 := hf.l 13 rfl
 refine Fact.p rfl fun K hK => ?_
 go_simp
 refine hK.out _ _ ?_; clear hK K
 refine Fact.p rfl fun K hK => ?_
 go_simp
 try simp (disch := omega) only [Fact.wrap_i64, Fact.wrap_u8, Fact.wrap_u32, Fact.wrap_u64]
 refine hK.out _ _ ?_; clear hK K
 refine Fact.p rfl fun K hK => ?_
 go_simp
 refine hK.out _ _ ?_; clear hK K
 refine Fact.nil ?_
 refine Fact.q hf (by simp only [Fact.G]) rfl fun fr1 hf1 hT => ?_
 have hKp : _ ∧ _ ∧ _ ∧ _ ∧ _ ∧ _ ∧ _ ∧ _ ∧ _ ∧ _ ∧ _ ∧ _ ∧ _ ∧ _ ∧ _ ∧ _ := ⟨hT 1, hT 2, hT 3, hT 7, hT 8, hT 9, hT 10, hT 11, hT 12, hT 13, hT 14, hT 15, hT 16, hT 17, hT 18, hT 19⟩
 simp only [Fact.G, Nat.reduceEqDiff, Nat.reduceLT, hf.size, reduceIte, s1, s2, s3, s8, s9, s10, s11, s14, s15, s16, s17, s18, s19] at hKp
 clear hT hf s1 s2 s3 s7 s8 s9 s10 s11 s14 s15 s16 s17 s18 s19 b12 b13
 obtain ⟨s1, s2, s3, s7, s8, s9, s10, s11, s12, s13, s14, s15, s16, s17, s18, s19⟩ := hKp
 have hf := hf1; clear hf1
 refine Fact.then_normal ?_
 exact ⟨_, by have := HK.out; omega, i + 1, _, rfl, by omega, by rw [HX.out]; rfl, hf, s1, s2, s3, by rw [s7]; rfl, hb.trans (hx.mono hb.size)⟩)
 · (
 have hie : i = t.size := by have h9 := of_decide_eq_false hq; omega
 subst hie
 refine wp_exit ?_
 refine Fact.then_exit ?_
 refine Fact.then_exit ?_
 refine Fact.block_exit ?_
 refine Fact.nx (hK2 _ _ ?_)
 refine wp_seq_k (fun K7 hK7 => ?_)
 refine Fact.region ?_
 have b20 := hf.l 20 rfl
 refine Fact.p rfl fun K hK => ?_
 go_simp
 refine hK.out _ _ ?_; clear hK K
 refine Fact.p rfl fun K hK => ?_
 go_simp
 refine hK.out _ _ ?_; clear hK K
 refine Fact.nil ?_
 refine Fact.q hf (by simp only [Fact.G]) rfl fun fr1 hf1 hT => ?_
 have hKp := hT 6
 simp only [Fact.G, Nat.reduceEqDiff, Nat.reduceLT, hf.size, reduceIte] at hKp
 clear hT hf s1 s2 s3 s7 s8 s9 s10 s11 b20
 have s6 := hKp; clear hKp
 have hf := hf1; clear hf1
 refine Fact.nx (hK7 _ _ ?_)
 refine wp_ret ?_
 exact Fact.ret1 rfl hf s6 ⟨by rw [HX.out]; rfl, hb0.trans (hb.mono hb0.size)⟩))
end Lv
end Go.Proofs.Ytfgfichkcckhiaa
