/- Lev: works. -/
import Derived.Test.YtfgfichkcckhiaaLBytes
namespace Go.Proofs.Ytfgfichkcckhiaa
open Go.RowKit
set_option linter.unusedSimpArgs false
set_option linter.unusedVariables false
set_option linter.unnecessarySimpa false
namespace Lv
theorem txt_new (w : World) (l : List ByteArray) : ∀ (i : Nat) (s : ByteArray), l[i]? = some s → (w.alloc (.cells (l.map Value.string).toArray 9)).cell? ⟨w.heap.size, i, none⟩ = some (.string s) := fun i s hi => by
  rw [cell_of_row _ _ i _ 9 (0, 0) (heap_alloc_new w _)]
  simp [hi]
theorem txt_small {l : List ByteArray} (h : (l.all fun s => decide (s.size ≤ 1000000)) = true) : ∀ (i : Nat) (s : ByteArray), l[i]? = some s → s.size ≤ 1000000 := fun i s hi => by
  have := List.all_eq_true.1 h s (List.mem_of_getElem? hi)
  simpa using this
theorem OB.ab {w : World} {base : Nat} {v : Value} (h : OB w base v [97, 98]) : ∃ g c, v = .slice (some ⟨g, 0, none⟩) 2 c ∧ ∀ (i x : Nat), [97, 98][i]? = some x → w.cell? ⟨g, i, none⟩ = some (.int .u8 (x : Int)) := by
  rcases OB.form h with ⟨_, h2⟩ | ⟨g, cap, h1, _, _, _, h5⟩
  · cases h2
  · exact ⟨g, cap, h1, h5⟩
theorem ab_cells {w : World} {g : Nat} (h : ∀ (i x : Nat), [97, 98][i]? = some x → w.cell? ⟨g, i, none⟩ = some (.int .u8 (x : Int))) : ∀ i, i < 2 → w.cell? ⟨g, 0 + i, none⟩ = some (.int .u8 (([97, 98] : List Int).getD i 0)) := fun i hi => by
  rw [Nat.zero_add]
  match i, hi with
  | 0, _ => exact h 0 97 rfl
  | 1, _ => exact h 1 98 rfl
theorem W1 : startS (⟨#[97, 98]⟩ : ByteArray) 1 = ⟨#[0, 1, 2]⟩ := by kernel_rfl
theorem W2 : readL (⟨#[97, 98]⟩ : ByteArray) 1 (⟨#[0, 1, 2]⟩ : ByteArray) [⟨#[97]⟩, ⟨#[98]⟩] = ⟨#[2, 1, 0]⟩ := by kernel_rfl
theorem W3 : readL (⟨#[97, 98]⟩ : ByteArray) 1 (⟨#[0, 1, 2]⟩ : ByteArray) [⟨#[120]⟩] = ⟨#[1, 1, 2]⟩ := by kernel_rfl
theorem W4 : readL (⟨#[97, 98]⟩ : ByteArray) 1 (⟨#[0, 1, 2]⟩ : ByteArray) [⟨#[120]⟩, ⟨#[121]⟩] = ⟨#[2, 2, 2]⟩ := by kernel_rfl
theorem W5 : (distS (⟨#[97, 98]⟩ : ByteArray) 1 (⟨#[2, 1, 0]⟩ : ByteArray), isS (⟨#[97, 98]⟩ : ByteArray) 1 (⟨#[2, 1, 0]⟩ : ByteArray)) = (0, true) := by kernel_rfl
theorem W6 : (distS (⟨#[97, 98]⟩ : ByteArray) 1 (⟨#[1, 1, 2]⟩ : ByteArray), isS (⟨#[97, 98]⟩ : ByteArray) 1 (⟨#[1, 1, 2]⟩ : ByteArray)) = (0, false) := by kernel_rfl
theorem W7 : (distS (⟨#[97, 98]⟩ : ByteArray) 1 (⟨#[2, 2, 2]⟩ : ByteArray), isS (⟨#[97, 98]⟩ : ByteArray) 1 (⟨#[2, 2, 2]⟩ : ByteArray)) = (0, false) := by kernel_rfl
theorem W8 : (bytesS (⟨#[97, 98]⟩ : ByteArray) 1 (⟨#[0, 1, 2]⟩ : ByteArray), moreS (⟨#[97, 98]⟩ : ByteArray) 1 (⟨#[0, 1, 2]⟩ : ByteArray)) = ([97, 98], true) := by kernel_rfl
theorem W9 : stepS (⟨#[97, 98]⟩ : ByteArray) 1 (⟨#[0, 1, 2]⟩ : ByteArray) 97 = ⟨#[1, 0, 1]⟩ := by kernel_rfl
theorem W10 : stepS (⟨#[97, 98]⟩ : ByteArray) 1 (⟨#[0, 1, 2]⟩ : ByteArray) 98 = ⟨#[1, 1, 1]⟩ := by kernel_rfl
theorem W11 : stepS (⟨#[97, 98]⟩ : ByteArray) 1 (⟨#[0, 1, 2]⟩ : ByteArray) 120 = ⟨#[1, 1, 2]⟩ := by kernel_rfl
theorem W12 : canS (⟨#[97, 98]⟩ : ByteArray) 1 (⟨#[1, 1, 2]⟩ : ByteArray) = true := by kernel_rfl
theorem W13 : canS (⟨#[97, 98]⟩ : ByteArray) 1 (⟨#[2, 2, 2]⟩ : ByteArray) = false := by kernel_rfl
set_option maxHeartbeats 4000000 in
set_option maxRecDepth 100000 in
theorem works20  (w : World) : Calls Try.prog 20 #[] w fun e w1 => e = .returned (.bool true) ∧ Below w.heap.size w w1 := by
 refine calls_of_wp Try.func20 rfl ?_
 refine Fact.enter (n := 105) (by kernel_rfl) (fun fr hf hT => ?_)
 clear hT
 refine wp_seq_k (fun K1 hK1 => ?_)
 refine Fact.region ?_
 refine Fact.p rfl fun K hK => ?_
 go_simp
 refine hK.out _ _ ?_; clear hK K
 refine Fact.nil ?_
 refine Fact.q hf (by simp only [Fact.G]) rfl fun fr1 hf1 hT => ?_
 have hKp := hT 0
 simp only [Fact.G, Nat.reduceEqDiff, Nat.reduceLT, hf.size, reduceIte] at hKp
 clear hT hf
 have s0 := hKp; clear hKp
 have hf := hf1; clear hf1
 refine Fact.nx (hK1 _ _ ?_)
 refine wp_seq_k (fun K2 hK2 => ?_)
 refine Fact.region ?_
 have b13 := hf.l 13 rfl
 have cc := new10 (⟨#[97, 98]⟩ : ByteArray) 1 (by decide) (by decide) w
 refine Fact.p rfl fun K hK => ?_
 go_simp
 go_at_call 10; refine (cc).mono ?_; rintro e w1 ⟨g, rfl, hA1, hg1, hb1⟩
 clear cc
 dsimp only
 refine hK.out _ _ ?_; clear hK K
 refine Fact.p rfl fun K hK => ?_
 go_simp
 refine hK.out _ _ ?_; clear hK K
 refine Fact.nil ?_
 refine Fact.q hf (by simp only [Fact.G]) rfl fun fr1 hf1 hT => ?_
 have hKp : _ ∧ _ := ⟨hT 0, hT 1⟩
 simp only [Fact.G, Nat.reduceEqDiff, Nat.reduceLT, hf.size, reduceIte, s0] at hKp
 clear hT hf s0 b13
 obtain ⟨s0, s1⟩ := hKp
 have hf := hf1; clear hf1
 refine Fact.nx (hK2 _ _ ?_)
 refine wp_seq_k (fun K3 hK3 => ?_)
 refine Fact.region ?_
 have b14 := hf.l 14 rfl
 have b15 := hf.l 15 rfl
 refine Fact.p rfl fun K hK => ?_
 go_simp
 refine hK.out _ _ ?_; clear hK K
 have cc := start13 w1 g (⟨#[97, 98]⟩ : ByteArray) 1 hA1
 rw [W1] at cc
 refine Fact.p rfl fun K hK => ?_
 go_simp
 go_at_call 13; refine (cc).mono ?_; rintro e w2 ⟨rfl, h2⟩
 clear cc
 have hb2 := hb1.trans (h2.mono hb1.size)
 have hA2 := hA1.later h2
 dsimp only
 refine hK.out _ _ ?_; clear hK K
 refine Fact.p rfl fun K hK => ?_
 go_simp
 refine hK.out _ _ ?_; clear hK K
 refine Fact.nil ?_
 refine Fact.q hf (by simp only [Fact.G]) rfl fun fr1 hf1 hT => ?_
 have hKp : _ ∧ _ ∧ _ := ⟨hT 0, hT 1, hT 2⟩
 simp only [Fact.G, Nat.reduceEqDiff, Nat.reduceLT, hf.size, reduceIte, s0, s1] at hKp
 clear hT hf s0 s1 b14 b15
 obtain ⟨s0, s1, s2⟩ := hKp
 have hf := hf1; clear hf1
 refine Fact.nx (hK3 _ _ ?_)
 refine wp_seq_k (fun K4 hK4 => ?_)
 refine Fact.region ?_
 have b17 := hf.l 17 rfl
 have b18 := hf.l 18 rfl
 have b19 := hf.l 19 rfl
 have b20 := hf.l 20 rfl
 have b21 := hf.l 21 rfl
 have b22 := hf.l 22 rfl
 have b16 := hf.l 16 rfl
 have b23 := hf.l 23 rfl
 have b24 := hf.l 24 rfl
 refine Fact.p rfl fun K hK => ?_
 go_simp
 refine hK.out _ _ ?_; clear hK K
 refine Fact.p rfl fun K hK => ?_
 go_simp
 refine hK.out _ _ ?_; clear hK K
 refine Fact.p rfl fun K hK => ?_
 go_simp
 refine hK.out _ _ ?_; clear hK K
 refine Fact.p rfl fun K hK => ?_
 go_simp
 refine hK.out _ _ ?_; clear hK K
 have hx2a : Below w2.heap.size w2 (w2.alloc (.cells #[.string ⟨#[97]⟩, .string ⟨#[98]⟩] 9)) := (Below.refl _ _).alloc (Nat.le_refl _) _
 have hA2a := hA2.later hx2a
 have hb2a := hb2.trans (hx2a.mono hb2.size)
 have ht2a := txt_new w2 [(⟨#[97]⟩ : ByteArray), (⟨#[98]⟩ : ByteArray)]
 have cc := read18 (w2.alloc (.cells #[.string ⟨#[97]⟩, .string ⟨#[98]⟩] 9)) g (⟨#[97, 98]⟩ : ByteArray) 1 hA2a (⟨#[0, 1, 2]⟩ : ByteArray) w2.heap.size 2 [(⟨#[97]⟩ : ByteArray), (⟨#[98]⟩ : ByteArray)] ht2a (txt_small (by decide)) (by decide)
 rw [W2] at cc
 refine Fact.p rfl fun K hK => ?_
 go_simp
 go_at_call 18; refine (cc).mono ?_; rintro e w3 ⟨rfl, h3⟩
 clear cc ht2a
 have hb3 := hb2a.trans (h3.mono hb2a.size)
 have hA3 := hA2a.later h3
 dsimp only
 refine hK.out _ _ ?_; clear hK K
 have cc := dist22 w3 g (⟨#[97, 98]⟩ : ByteArray) 1 hA3 (⟨#[2, 1, 0]⟩ : ByteArray)
 have ce := W5
 injection ce with ce1 ce2
 rw [ce1, ce2] at cc
 clear ce1 ce2
 refine Fact.p rfl fun K hK => ?_
 go_simp
 go_at_call 22; refine (cc).mono ?_; rintro e w4 ⟨rfl, h4⟩
 clear cc
 have hb4 := hb3.trans (h4.mono hb3.size)
 have hA4 := hA3.later h4
 dsimp only
 refine hK.out _ _ ?_; clear hK K
 refine Fact.p rfl fun K hK => ?_
 go_simp
 refine hK.out _ _ ?_; clear hK K
 refine Fact.p rfl fun K hK => ?_
 go_simp
 refine hK.out _ _ ?_; clear hK K
 refine Fact.p rfl fun K hK => ?_
 go_simp
 refine hK.out _ _ ?_; clear hK K
 refine Fact.p rfl fun K hK => ?_
 go_simp
 refine hK.out _ _ ?_; clear hK K
 refine Fact.p rfl fun K hK => ?_
 go_simp
 refine hK.out _ _ ?_; clear hK K
 refine Fact.nil ?_
 refine Fact.q hf (by simp only [Fact.G]) rfl fun fr1 hf1 hT => ?_
 have hKp : _ ∧ _ ∧ _ ∧ _ ∧ _ := ⟨hT 0, hT 1, hT 2, hT 3, hT 4⟩
 simp only [Fact.G, Nat.reduceEqDiff, Nat.reduceLT, hf.size, reduceIte, s0, s1, s2] at hKp
 clear hT hf s0 s1 s2 b17 b18 b19 b20 b21 b22 b16 b23 b24
 obtain ⟨s0, s1, s2, s3, s4⟩ := hKp
 have hf := hf1; clear hf1
 refine Fact.nx (hK4 _ _ ?_)
 refine wp_seq_k (fun K5 hK5 => ?_)
 refine Fact.region ?_
 have b25 := hf.l 25 rfl
 have b26 := hf.l 26 rfl
 have b27 := hf.l 27 rfl
 have b28 := hf.l 28 rfl
 have b29 := hf.l 29 rfl
 have b30 := hf.l 30 rfl
 have b31 := hf.l 31 rfl
 have b32 := hf.l 32 rfl
 refine Fact.p rfl fun K hK => ?_
 go_simp
 refine hK.out _ _ ?_; clear hK K
 refine Fact.p rfl fun K hK => ?_
 go_simp
 refine hK.out _ _ ?_; clear hK K
 refine Fact.p rfl fun K hK => ?_
 go_simp
 refine hK.out _ _ ?_; clear hK K
 have hx4a : Below w4.heap.size w4 (w4.alloc (.cells #[.string ⟨#[120]⟩] 9)) := (Below.refl _ _).alloc (Nat.le_refl _) _
 have hA4a := hA4.later hx4a
 have hb4a := hb4.trans (hx4a.mono hb4.size)
 have ht4a := txt_new w4 [(⟨#[120]⟩ : ByteArray)]
 have cc := read18 (w4.alloc (.cells #[.string ⟨#[120]⟩] 9)) g (⟨#[97, 98]⟩ : ByteArray) 1 hA4a (⟨#[0, 1, 2]⟩ : ByteArray) w4.heap.size 1 [(⟨#[120]⟩ : ByteArray)] ht4a (txt_small (by decide)) (by decide)
 rw [W3] at cc
 refine Fact.p rfl fun K hK => ?_
 go_simp
 go_at_call 18; refine (cc).mono ?_; rintro e w5 ⟨rfl, h5⟩
 clear cc ht4a
 have hb5 := hb4a.trans (h5.mono hb4a.size)
 have hA5 := hA4a.later h5
 dsimp only
 refine hK.out _ _ ?_; clear hK K
 refine Fact.p rfl fun K hK => ?_
 go_simp
 refine hK.out _ _ ?_; clear hK K
 refine Fact.p rfl fun K hK => ?_
 go_simp
 refine hK.out _ _ ?_; clear hK K
 refine Fact.p rfl fun K hK => ?_
 go_simp
 refine hK.out _ _ ?_; clear hK K
 have hx5a : Below w5.heap.size w5 (w5.alloc (.cells #[.string ⟨#[120]⟩, .string ⟨#[121]⟩] 9)) := (Below.refl _ _).alloc (Nat.le_refl _) _
 have hA5a := hA5.later hx5a
 have hb5a := hb5.trans (hx5a.mono hb5.size)
 have ht5a := txt_new w5 [(⟨#[120]⟩ : ByteArray), (⟨#[121]⟩ : ByteArray)]
 have cc := read18 (w5.alloc (.cells #[.string ⟨#[120]⟩, .string ⟨#[121]⟩] 9)) g (⟨#[97, 98]⟩ : ByteArray) 1 hA5a (⟨#[0, 1, 2]⟩ : ByteArray) w5.heap.size 2 [(⟨#[120]⟩ : ByteArray), (⟨#[121]⟩ : ByteArray)] ht5a (txt_small (by decide)) (by decide)
 rw [W4] at cc
 refine Fact.p rfl fun K hK => ?_
 go_simp
 go_at_call 18; refine (cc).mono ?_; rintro e w6 ⟨rfl, h6⟩
 clear cc ht5a
 have hb6 := hb5a.trans (h6.mono hb5a.size)
 have hA6 := hA5a.later h6
 dsimp only
 refine hK.out _ _ ?_; clear hK K
 refine Fact.p rfl fun K hK => ?_
 go_simp
 refine hK.out _ _ ?_; clear hK K
 refine Fact.p rfl fun K hK => ?_
 go_simp
 refine hK.out _ _ ?_; clear hK K
 refine Fact.nil ?_
 refine Fact.q hf (by simp only [Fact.G]) rfl fun fr1 hf1 hT => ?_
 have hKp : _ ∧ _ ∧ _ ∧ _ ∧ _ ∧ _ ∧ _ := ⟨hT 0, hT 1, hT 2, hT 3, hT 4, hT 5, hT 6⟩
 simp only [Fact.G, Nat.reduceEqDiff, Nat.reduceLT, hf.size, reduceIte, s0, s1, s2, s3, s4] at hKp
 clear hT hf s0 s1 s2 s3 s4 b25 b26 b27 b28 b29 b30 b31 b32
 obtain ⟨s0, s1, s2, s3, s4, s5, s6⟩ := hKp
 have hf := hf1; clear hf1
 refine Fact.nx (hK5 _ _ ?_)
 refine wp_seq_k (fun K6 hK6 => ?_)
 refine Fact.region ?_
 have b34 := hf.l 34 rfl
 have b35 := hf.l 35 rfl
 have b36 := hf.l 36 rfl
 have b33 := hf.l 33 rfl
 have b37 := hf.l 37 rfl
 have b38 := hf.l 38 rfl
 refine Fact.p rfl fun K hK => ?_
 go_simp
 refine hK.out _ _ ?_; clear hK K
 refine Fact.p rfl fun K hK => ?_
 go_simp
 refine hK.out _ _ ?_; clear hK K
 have cc := dist22 w6 g (⟨#[97, 98]⟩ : ByteArray) 1 hA6 (⟨#[1, 1, 2]⟩ : ByteArray)
 have ce := W6
 injection ce with ce1 ce2
 rw [ce1, ce2] at cc
 clear ce1 ce2
 refine Fact.p rfl fun K hK => ?_
 go_simp
 go_at_call 22; refine (cc).mono ?_; rintro e w7 ⟨rfl, h7⟩
 clear cc
 have hb7 := hb6.trans (h7.mono hb6.size)
 have hA7 := hA6.later h7
 dsimp only
 refine hK.out _ _ ?_; clear hK K
 refine Fact.p rfl fun K hK => ?_
 go_simp
 refine hK.out _ _ ?_; clear hK K
 refine Fact.p rfl fun K hK => ?_
 go_simp
 refine hK.out _ _ ?_; clear hK K
 refine Fact.p rfl fun K hK => ?_
 go_simp
 refine hK.out _ _ ?_; clear hK K
 refine Fact.p rfl fun K hK => ?_
 go_simp
 refine hK.out _ _ ?_; clear hK K
 refine Fact.p rfl fun K hK => ?_
 go_simp
 refine hK.out _ _ ?_; clear hK K
 refine Fact.nil ?_
 refine Fact.q hf (by simp only [Fact.G]) rfl fun fr1 hf1 hT => ?_
 have hKp : _ ∧ _ ∧ _ ∧ _ ∧ _ ∧ _ ∧ _ ∧ _ := ⟨hT 0, hT 1, hT 2, hT 3, hT 4, hT 5, hT 6, hT 8⟩
 simp only [Fact.G, Nat.reduceEqDiff, Nat.reduceLT, hf.size, reduceIte, s0, s1, s2, s3, s4, s5, s6] at hKp
 clear hT hf s0 s1 s2 s3 s4 s5 s6 b34 b35 b36 b33 b37 b38
 obtain ⟨s0, s1, s2, s3, s4, s5, s6, s8⟩ := hKp
 have hf := hf1; clear hf1
 refine Fact.nx (hK6 _ _ ?_)
 refine wp_seq_k (fun K7 hK7 => ?_)
 refine Fact.region ?_
 have b40 := hf.l 40 rfl
 have b41 := hf.l 41 rfl
 have b42 := hf.l 42 rfl
 have b39 := hf.l 39 rfl
 have b43 := hf.l 43 rfl
 have b44 := hf.l 44 rfl
 refine Fact.p rfl fun K hK => ?_
 go_simp
 refine hK.out _ _ ?_; clear hK K
 refine Fact.p rfl fun K hK => ?_
 go_simp
 refine hK.out _ _ ?_; clear hK K
 have cc := dist22 w7 g (⟨#[97, 98]⟩ : ByteArray) 1 hA7 (⟨#[2, 2, 2]⟩ : ByteArray)
 have ce := W7
 injection ce with ce1 ce2
 rw [ce1, ce2] at cc
 clear ce1 ce2
 refine Fact.p rfl fun K hK => ?_
 go_simp
 go_at_call 22; refine (cc).mono ?_; rintro e w8 ⟨rfl, h8⟩
 clear cc
 have hb8 := hb7.trans (h8.mono hb7.size)
 have hA8 := hA7.later h8
 dsimp only
 refine hK.out _ _ ?_; clear hK K
 refine Fact.p rfl fun K hK => ?_
 go_simp
 refine hK.out _ _ ?_; clear hK K
 refine Fact.p rfl fun K hK => ?_
 go_simp
 refine hK.out _ _ ?_; clear hK K
 refine Fact.p rfl fun K hK => ?_
 go_simp
 refine hK.out _ _ ?_; clear hK K
 refine Fact.p rfl fun K hK => ?_
 go_simp
 refine hK.out _ _ ?_; clear hK K
 refine Fact.p rfl fun K hK => ?_
 go_simp
 refine hK.out _ _ ?_; clear hK K
 refine Fact.nil ?_
 refine Fact.q hf (by simp only [Fact.G]) rfl fun fr1 hf1 hT => ?_
 have hKp : _ ∧ _ ∧ _ ∧ _ ∧ _ ∧ _ ∧ _ ∧ _ ∧ _ := ⟨hT 0, hT 1, hT 2, hT 3, hT 4, hT 5, hT 6, hT 8, hT 10⟩
 simp only [Fact.G, Nat.reduceEqDiff, Nat.reduceLT, hf.size, reduceIte, s0, s1, s2, s3, s4, s5, s6, s8] at hKp
 clear hT hf s0 s1 s2 s3 s4 s5 s6 s8 b40 b41 b42 b39 b43 b44
 obtain ⟨s0, s1, s2, s3, s4, s5, s6, s8, s10⟩ := hKp
 have hf := hf1; clear hf1
 refine Fact.nx (hK7 _ _ ?_)
 refine wp_seq_k (fun K8 hK8 => ?_)
 refine Fact.region ?_
 have b46 := hf.l 46 rfl
 have b47 := hf.l 47 rfl
 have b48 := hf.l 48 rfl
 have b45 := hf.l 45 rfl
 have b49 := hf.l 49 rfl
 have b50 := hf.l 50 rfl
 refine Fact.p rfl fun K hK => ?_
 go_simp
 refine hK.out _ _ ?_; clear hK K
 refine Fact.p rfl fun K hK => ?_
 go_simp
 refine hK.out _ _ ?_; clear hK K
 have cc := bytes24 w8 g (⟨#[97, 98]⟩ : ByteArray) 1 hA8 (⟨#[0, 1, 2]⟩ : ByteArray)
 have ce := W8
 injection ce with ce1 ce2
 rw [ce1, ce2] at cc
 clear ce1 ce2
 refine Fact.p rfl fun K hK => ?_
 go_simp
 go_at_call 24; refine (cc).mono ?_; rintro e w9 ⟨v9, rfl, hv9, h9⟩
 clear cc
 have hb9 := hb8.trans (h9.mono hb8.size)
 have hA9 := hA8.later h9
 obtain ⟨g9, c9, rfl, hc9⟩ := OB.ab hv9
 dsimp only
 refine hK.out _ _ ?_; clear hK K
 refine Fact.p rfl fun K hK => ?_
 go_simp
 refine hK.out _ _ ?_; clear hK K
 refine Fact.p rfl fun K hK => ?_
 go_simp
 refine hK.out _ _ ?_; clear hK K
 refine Fact.p rfl fun K hK => ?_
 go_simp
 refine hK.out _ _ ?_; clear hK K
 refine Fact.p rfl fun K hK => ?_
 go_simp
 refine hK.out _ _ ?_; clear hK K
 refine Fact.p rfl fun K hK => ?_
 go_simp
 refine hK.out _ _ ?_; clear hK K
 refine Fact.nil ?_
 refine Fact.q hf (by simp only [Fact.G]) rfl fun fr1 hf1 hT => ?_
 have hKp : _ ∧ _ ∧ _ ∧ _ ∧ _ ∧ _ ∧ _ ∧ _ ∧ _ ∧ _ ∧ _ := ⟨hT 0, hT 1, hT 2, hT 3, hT 4, hT 5, hT 6, hT 8, hT 10, hT 11, hT 12⟩
 simp only [Fact.G, Nat.reduceEqDiff, Nat.reduceLT, hf.size, reduceIte, s0, s1, s2, s3, s4, s5, s6, s8, s10] at hKp
 clear hT hf s0 s1 s2 s3 s4 s5 s6 s8 s10 b46 b47 b48 b45 b49 b50
 obtain ⟨s0, s1, s2, s3, s4, s5, s6, s8, s10, s11, s12⟩ := hKp
 have hf := hf1; clear hf1
 refine Fact.nx (hK8 _ _ ?_)
 refine wp_seq_k (fun K9 hK9 => ?_)
 refine Fact.region ?_
 have b51 := hf.l 51 rfl
 have b52 := hf.l 52 rfl
 have b53 := hf.l 53 rfl
 have b54 := hf.l 54 rfl
 have b55 := hf.l 55 rfl
 have b56 := hf.l 56 rfl
 have b57 := hf.l 57 rfl
 have b58 := hf.l 58 rfl
 have b59 := hf.l 59 rfl
 have b60 := hf.l 60 rfl
 have b61 := hf.l 61 rfl
 have b62 := hf.l 62 rfl
 have b63 := hf.l 63 rfl
 have b64 := hf.l 64 rfl
 have b65 := hf.l 65 rfl
 have b66 := hf.l 66 rfl
 have b67 := hf.l 67 rfl
 have b68 := hf.l 68 rfl
 have b69 := hf.l 69 rfl
 have b70 := hf.l 70 rfl
 have b71 := hf.l 71 rfl
 have b72 := hf.l 72 rfl
 have b73 := hf.l 73 rfl
 have b74 := hf.l 74 rfl
 have b75 := hf.l 75 rfl
 have b76 := hf.l 76 rfl
 have b77 := hf.l 77 rfl
 have b78 := hf.l 78 rfl
 have b79 := hf.l 79 rfl
 have b80 := hf.l 80 rfl
 have b81 := hf.l 81 rfl
 have b82 := hf.l 82 rfl
 have b83 := hf.l 83 rfl
 have b84 := hf.l 84 rfl
 have b85 := hf.l 85 rfl
 have b86 := hf.l 86 rfl
 have b87 := hf.l 87 rfl
 have b88 := hf.l 88 rfl
 have b89 := hf.l 89 rfl
 have b90 := hf.l 90 rfl
 have b91 := hf.l 91 rfl
 have b92 := hf.l 92 rfl
 have b93 := hf.l 93 rfl
 have b94 := hf.l 94 rfl
 have b95 := hf.l 95 rfl
 have b96 := hf.l 96 rfl
 have b97 := hf.l 97 rfl
 have b98 := hf.l 98 rfl
 have b99 := hf.l 99 rfl
 have b100 := hf.l 100 rfl
 have b101 := hf.l 101 rfl
 have b102 := hf.l 102 rfl
 have b103 := hf.l 103 rfl
 have b104 := hf.l 104 rfl
 refine Fact.p rfl fun K hK => ?_
 go_simp
 refine hK.out _ _ ?_; clear hK K
 refine Fact.p rfl fun K hK => ?_
 go_simp
 refine hK.out _ _ ?_; clear hK K
 refine Fact.p rfl fun K hK => ?_
 go_simp
 refine hK.out _ _ ?_; clear hK K
 refine Fact.op_guard (g := 2) (d := 53) (b := true) rfl rfl rfl ?_ (fun K hK => ?_)
 · (
 simp only [Fact.G, Nat.reduceEqDiff, Nat.reduceLT, reduceIte, hf.size])
 go_simp
 refine hK.out _ _ ?_; clear hK K
 refine Fact.op_guard (g := 2) (d := 53) (b := true) rfl rfl rfl ?_ (fun K hK => ?_)
 · (
 simp only [Fact.G, Nat.reduceEqDiff, Nat.reduceLT, reduceIte, hf.size])
 go_simp
 refine hK.out _ _ ?_; clear hK K
 have cc := step16 w9 g (⟨#[97, 98]⟩ : ByteArray) 1 hA9 (⟨#[0, 1, 2]⟩ : ByteArray) 97
 rw [W9] at cc
 refine Fact.op_guard (g := 2) (d := 53) (b := true) rfl rfl rfl ?_ (fun K hK => ?_)
 · (
 simp only [Fact.G, Nat.reduceEqDiff, Nat.reduceLT, reduceIte, hf.size])
 go_simp
 go_at_call 16; refine (cc).mono ?_; rintro e w10 ⟨rfl, h10⟩
 clear cc
 have hb10 := hb9.trans (h10.mono hb9.size)
 have hA10 := hA9.later h10
 dsimp only
 refine hK.out _ _ ?_; clear hK K
 refine Fact.op_guard (g := 2) (d := 53) (b := true) rfl rfl rfl ?_ (fun K hK => ?_)
 · (
 simp only [Fact.G, Nat.reduceEqDiff, Nat.reduceLT, reduceIte, hf.size])
 go_simp
 refine hK.out _ _ ?_; clear hK K
 refine Fact.p rfl fun K hK => ?_
 go_simp
 refine hK.out _ _ ?_; clear hK K
 refine Fact.p rfl fun K hK => ?_
 go_simp
 refine hK.out _ _ ?_; clear hK K
 refine Fact.op_guard (g := 8) (d := 59) (b := true) rfl rfl rfl ?_ (fun K hK => ?_)
 · (
 simp only [Fact.G, Nat.reduceEqDiff, Nat.reduceLT, reduceIte, hf.size])
 go_simp
 refine hK.out _ _ ?_; clear hK K
 refine Fact.op_guard (g := 8) (d := 59) (b := true) rfl rfl rfl ?_ (fun K hK => ?_)
 · (
 simp only [Fact.G, Nat.reduceEqDiff, Nat.reduceLT, reduceIte, hf.size])
 go_simp
 refine hK.out _ _ ?_; clear hK K
 have cc := step16 w10 g (⟨#[97, 98]⟩ : ByteArray) 1 hA10 (⟨#[0, 1, 2]⟩ : ByteArray) 98
 rw [W10] at cc
 refine Fact.op_guard (g := 8) (d := 59) (b := true) rfl rfl rfl ?_ (fun K hK => ?_)
 · (
 simp only [Fact.G, Nat.reduceEqDiff, Nat.reduceLT, reduceIte, hf.size])
 go_simp
 go_at_call 16; refine (cc).mono ?_; rintro e w11 ⟨rfl, h11⟩
 clear cc
 have hb11 := hb10.trans (h11.mono hb10.size)
 have hA11 := hA10.later h11
 dsimp only
 refine hK.out _ _ ?_; clear hK K
 refine Fact.op_guard (g := 8) (d := 59) (b := true) rfl rfl rfl ?_ (fun K hK => ?_)
 · (
 simp only [Fact.G, Nat.reduceEqDiff, Nat.reduceLT, reduceIte, hf.size])
 go_simp
 refine hK.out _ _ ?_; clear hK K
 refine Fact.p rfl fun K hK => ?_
 go_simp
 refine hK.out _ _ ?_; clear hK K
 refine Fact.p rfl fun K hK => ?_
 go_simp
 refine hK.out _ _ ?_; clear hK K
 refine Fact.op_guard (g := 14) (d := 65) (b := true) rfl rfl rfl ?_ (fun K hK => ?_)
 · (
 simp only [Fact.G, Nat.reduceEqDiff, Nat.reduceLT, reduceIte, hf.size])
 go_simp
 refine hK.out _ _ ?_; clear hK K
 refine Fact.op_guard (g := 14) (d := 65) (b := true) rfl rfl rfl ?_ (fun K hK => ?_)
 · (
 simp only [Fact.G, Nat.reduceEqDiff, Nat.reduceLT, reduceIte, hf.size])
 go_simp
 refine hK.out _ _ ?_; clear hK K
 have cc := step16 w11 g (⟨#[97, 98]⟩ : ByteArray) 1 hA11 (⟨#[0, 1, 2]⟩ : ByteArray) 120
 rw [W11] at cc
 refine Fact.op_guard (g := 14) (d := 65) (b := true) rfl rfl rfl ?_ (fun K hK => ?_)
 · (
 simp only [Fact.G, Nat.reduceEqDiff, Nat.reduceLT, reduceIte, hf.size])
 go_simp
 go_at_call 16; refine (cc).mono ?_; rintro e w12 ⟨rfl, h12⟩
 clear cc
 have hb12 := hb11.trans (h12.mono hb11.size)
 have hA12 := hA11.later h12
 dsimp only
 refine hK.out _ _ ?_; clear hK K
 refine Fact.op_guard (g := 14) (d := 65) (b := true) rfl rfl rfl ?_ (fun K hK => ?_)
 · (
 simp only [Fact.G, Nat.reduceEqDiff, Nat.reduceLT, reduceIte, hf.size])
 go_simp
 refine hK.out _ _ ?_; clear hK K
 refine Fact.p rfl fun K hK => ?_
 go_simp
 refine hK.out _ _ ?_; clear hK K
 refine Fact.p rfl fun K hK => ?_
 go_simp
 refine hK.out _ _ ?_; clear hK K
 refine Fact.op_guard (g := 20) (d := 71) (b := true) rfl rfl rfl ?_ (fun K hK => ?_)
 · (
 simp only [Fact.G, Nat.reduceEqDiff, Nat.reduceLT, reduceIte, hf.size])
 go_simp
 refine hK.out _ _ ?_; clear hK K
 refine Fact.op_guard (g := 20) (d := 71) (b := true) rfl rfl rfl ?_ (fun K hK => ?_)
 · (
 simp only [Fact.G, Nat.reduceEqDiff, Nat.reduceLT, reduceIte, hf.size])
 go_simp
 refine hK.out _ _ ?_; clear hK K
 refine Fact.p rfl fun K hK => ?_
 go_simp
 refine hK.out _ _ ?_; clear hK K
 refine Fact.p rfl fun K hK => ?_
 go_simp
 refine hK.out _ _ ?_; clear hK K
 refine Fact.op_guard (g := 24) (d := 75) (b := true) rfl rfl rfl ?_ (fun K hK => ?_)
 · (
 simp only [Fact.G, Nat.reduceEqDiff, Nat.reduceLT, reduceIte, hf.size])
 go_simp
 refine hK.out _ _ ?_; clear hK K
 refine Fact.p rfl fun K hK => ?_
 go_simp
 refine hK.out _ _ ?_; clear hK K
 refine Fact.p rfl fun K hK => ?_
 go_simp
 refine hK.out _ _ ?_; clear hK K
 refine Fact.op_guard (g := 27) (d := 78) (b := true) rfl rfl rfl ?_ (fun K hK => ?_)
 · (
 simp only [Fact.G, Nat.reduceEqDiff, Nat.reduceLT, reduceIte, hf.size])
 go_simp
 refine hK.out _ _ ?_; clear hK K
 refine Fact.op_guard (g := 27) (d := 78) (b := true) rfl rfl rfl ?_ (fun K hK => ?_)
 · (
 simp only [Fact.G, Nat.reduceEqDiff, Nat.reduceLT, reduceIte, hf.size])
 go_simp
 refine hK.out _ _ ?_; clear hK K
 refine Fact.p rfl fun K hK => ?_
 go_simp
 refine hK.out _ _ ?_; clear hK K
 refine Fact.p rfl fun K hK => ?_
 go_simp
 refine hK.out _ _ ?_; clear hK K
 refine Fact.op_guard (g := 31) (d := 82) (b := true) rfl rfl rfl ?_ (fun K hK => ?_)
 · (
 simp only [Fact.G, Nat.reduceEqDiff, Nat.reduceLT, reduceIte, hf.size])
 go_simp
 refine hK.out _ _ ?_; clear hK K
 refine Fact.op_guard (g := 31) (d := 82) (b := true) rfl rfl rfl ?_ (fun K hK => ?_)
 · (
 simp only [Fact.G, Nat.reduceEqDiff, Nat.reduceLT, reduceIte, hf.size])
 go_simp
 refine hK.out _ _ ?_; clear hK K
 have cc := can21 w12 g (⟨#[97, 98]⟩ : ByteArray) 1 hA12 (⟨#[1, 1, 2]⟩ : ByteArray)
 rw [W12] at cc
 refine Fact.op_guard (g := 31) (d := 82) (b := true) rfl rfl rfl ?_ (fun K hK => ?_)
 · (
 simp only [Fact.G, Nat.reduceEqDiff, Nat.reduceLT, reduceIte, hf.size])
 go_simp
 go_at_call 21; refine (cc).mono ?_; rintro e w13 ⟨rfl, h13⟩
 clear cc
 have hb13 := hb12.trans (h13.mono hb12.size)
 have hA13 := hA12.later h13
 dsimp only
 refine hK.out _ _ ?_; clear hK K
 refine Fact.p rfl fun K hK => ?_
 go_simp
 refine hK.out _ _ ?_; clear hK K
 refine Fact.p rfl fun K hK => ?_
 go_simp
 refine hK.out _ _ ?_; clear hK K
 refine Fact.op_guard (g := 36) (d := 87) (b := true) rfl rfl rfl ?_ (fun K hK => ?_)
 · (
 simp only [Fact.G, Nat.reduceEqDiff, Nat.reduceLT, reduceIte, hf.size])
 go_simp
 refine hK.out _ _ ?_; clear hK K
 refine Fact.op_guard (g := 36) (d := 87) (b := true) rfl rfl rfl ?_ (fun K hK => ?_)
 · (
 simp only [Fact.G, Nat.reduceEqDiff, Nat.reduceLT, reduceIte, hf.size])
 go_simp
 refine hK.out _ _ ?_; clear hK K
 refine Fact.p rfl fun K hK => ?_
 go_simp
 refine hK.out _ _ ?_; clear hK K
 refine Fact.p rfl fun K hK => ?_
 go_simp
 refine hK.out _ _ ?_; clear hK K
 refine Fact.op_guard (g := 40) (d := 91) (b := true) rfl rfl rfl ?_ (fun K hK => ?_)
 · (
 simp only [Fact.G, Nat.reduceEqDiff, Nat.reduceLT, reduceIte, hf.size])
 go_simp
 refine hK.out _ _ ?_; clear hK K
 refine Fact.op_guard (g := 40) (d := 91) (b := true) rfl rfl rfl ?_ (fun K hK => ?_)
 · (
 simp only [Fact.G, Nat.reduceEqDiff, Nat.reduceLT, reduceIte, hf.size])
 go_simp
 refine hK.out _ _ ?_; clear hK K
 have cc := can21 w13 g (⟨#[97, 98]⟩ : ByteArray) 1 hA13 (⟨#[2, 2, 2]⟩ : ByteArray)
 rw [W13] at cc
 refine Fact.op_guard (g := 40) (d := 91) (b := true) rfl rfl rfl ?_ (fun K hK => ?_)
 · (
 simp only [Fact.G, Nat.reduceEqDiff, Nat.reduceLT, reduceIte, hf.size])
 go_simp
 go_at_call 21; refine (cc).mono ?_; rintro e w14 ⟨rfl, h14⟩
 clear cc
 have hb14 := hb13.trans (h14.mono hb13.size)
 have hA14 := hA13.later h14
 dsimp only
 refine hK.out _ _ ?_; clear hK K
 refine Fact.op_guard (g := 40) (d := 91) (b := true) rfl rfl rfl ?_ (fun K hK => ?_)
 · (
 simp only [Fact.G, Nat.reduceEqDiff, Nat.reduceLT, reduceIte, hf.size])
 go_simp
 refine hK.out _ _ ?_; clear hK K
 refine Fact.p rfl fun K hK => ?_
 go_simp
 refine hK.out _ _ ?_; clear hK K
 refine Fact.p rfl fun K hK => ?_
 go_simp
 refine hK.out _ _ ?_; clear hK K
 refine Fact.op_guard (g := 46) (d := 97) (b := true) rfl rfl rfl ?_ (fun K hK => ?_)
 · (
 simp only [Fact.G, Nat.reduceEqDiff, Nat.reduceLT, reduceIte, hf.size])
 go_simp
 refine hK.out _ _ ?_; clear hK K
 have hc14 := fun i x hi => cell_later h14 (cell_later h13 (cell_later h12 (cell_later h11 (cell_later h10 (hc9 i x hi)))))
 have hcv := run_convert_bytes_arg (P := Try.prog) w14 38 5 Try.underlying38 Try.underlying5 g9 0 2 c9 [97, 98] rfl (ab_cells hc14) 9 Try.underlying9
 clear hc14
 refine Fact.op_guard (g := 46) (d := 97) (b := true) rfl rfl rfl ?_ (fun K hK => ?_)
 · (
 simp only [Fact.G, Nat.reduceEqDiff, Nat.reduceLT, reduceIte, hf.size])
 go_simp
 refine hK.out _ _ ?_; clear hK K
 have e9 : (strOfNums [97, 98]).toList = [97, 98] := by rw [ByteArray.toList_eq]; rfl
 refine Fact.op_guard (g := 46) (d := 97) (b := true) rfl rfl rfl ?_ (fun K hK => ?_)
 · (
 simp only [Fact.G, Nat.reduceEqDiff, Nat.reduceLT, reduceIte, hf.size])
 go_simp
 refine hK.out _ _ ?_; clear hK K
 refine Fact.p rfl fun K hK => ?_
 go_simp
 refine hK.out _ _ ?_; clear hK K
 refine Fact.p rfl fun K hK => ?_
 go_simp
 refine hK.out _ _ ?_; clear hK K
 refine Fact.op_guard (g := 51) (d := 102) (b := true) rfl rfl rfl ?_ (fun K hK => ?_)
 · (
 simp only [Fact.G, Nat.reduceEqDiff, Nat.reduceLT, reduceIte, hf.size])
 go_simp
 refine hK.out _ _ ?_; clear hK K
 refine Fact.p rfl fun K hK => ?_
 go_simp
 refine hK.out _ _ ?_; clear hK K
 refine Fact.p rfl fun K hK => ?_
 go_simp
 refine hK.out _ _ ?_; clear hK K
 refine Fact.nil ?_
 refine Fact.q hf (by simp only [Fact.G]) rfl fun fr1 hf1 hT => ?_
 have hKp := hT 0
 simp only [Fact.G, Nat.reduceEqDiff, Nat.reduceLT, hf.size, reduceIte] at hKp
 clear hT hf s0 s1 s2 s3 s4 s5 s6 s8 s10 s11 s12 b51 b52 b53 b54 b55 b56 b57 b58 b59 b60 b61 b62 b63 b64 b65 b66 b67 b68 b69 b70 b71 b72 b73 b74 b75 b76 b77 b78 b79 b80 b81 b82 b83 b84 b85 b86 b87 b88 b89 b90 b91 b92 b93 b94 b95 b96 b97 b98 b99 b100 b101 b102 b103 b104
 have s0 := hKp; clear hKp
 have hf := hf1; clear hf1
 refine Fact.nx (hK9 _ _ ?_)
 refine wp_ret ?_
 exact Fact.ret1 rfl hf s0 ⟨rfl, hb14⟩
end Lv
end Go.Proofs.Ytfgfichkcckhiaa
