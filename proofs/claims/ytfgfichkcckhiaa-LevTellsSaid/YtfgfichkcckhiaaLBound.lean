/- Lev: the bound of what is asked. -/
import Derived.Test.YtfgfichkcckhiaaLWorks
namespace Go.Proofs.Ytfgfichkcckhiaa
open Go.RowKit
set_option linter.unusedSimpArgs false
set_option linter.unusedVariables false
set_option linter.unnecessarySimpa false
namespace Lv
theorem few_size (s : ByteArray) (n : Nat) : (few s n).size ≤ n := by rw [few, ByteArray.size_extract]; omega
theorem few9b (s : ByteArray) (n : Nat) (w : World) : Calls Try.prog 9 #[.string s, .int .i64 n] w fun e w1 => e = .returned (.string (few s n)) ∧ Below w.heap.size w w1 := by
  refine (few9 s n w).mono ?_
  rintro e w1 ⟨rfl, rfl⟩
  exact ⟨rfl, Below.refl _ _⟩
theorem ask_cells (w : World) (Q T : ByteArray) (z : Int) (W0 : World) (h : w.alloc (.cells #[.string Q, .string T, .int .i8 z] 24) = W0) :
    W0.cell? ⟨w.heap.size, 0, none⟩ = some (.string Q) ∧ W0.cell? ⟨w.heap.size, 1, none⟩ = some (.string T) ∧ W0.cell? ⟨w.heap.size, 2, none⟩ = some (.int .i8 z) := by
  subst h
  exact ⟨cell_of_row _ _ 0 _ 24 (0, 0) (heap_alloc_new w _), cell_of_row _ _ 1 _ 24 (0, 0) (heap_alloc_new w _), cell_of_row _ _ 2 _ 24 (0, 0) (heap_alloc_new w _)⟩
theorem readL_one (q : ByteArray) (k : Nat) (S t : ByteArray) : readL q k S [t] = readS q k S t := rfl
/-- from 0 to 3 -/
def bnd (K : Int) : Nat := ((K.tmod 4 + 4).tmod 4).toNat
theorem tmod4 (z : Int) : -3 ≤ z.tmod 4 ∧ z.tmod 4 ≤ 3 := by
  rcases Int.le_total 0 z with h | h
  · rw [Int.tmod_eq_emod_of_nonneg h]; omega
  · obtain ⟨y, rfl⟩ : ∃ y, z = -y := ⟨-z, by omega⟩
    rw [Int.neg_tmod, Int.tmod_eq_emod_of_nonneg (by omega)]; omega
theorem bnd_range (K : Int) : 0 ≤ (K.tmod 4 + 4).tmod 4 ∧ (K.tmod 4 + 4).tmod 4 ≤ 3 := by
  have h1 := tmod4 K
  rw [Int.tmod_eq_emod_of_nonneg (by omega)]
  omega
theorem bnd_le (K : Int) : bnd K ≤ 3 := by have := bnd_range K; unfold bnd; omega
theorem bnd_eq (K : Int) : (bnd K : Int) = (K.tmod 4 + 4).tmod 4 := by have := bnd_range K; unfold bnd; omega
set_option maxHeartbeats 4000000 in
set_option maxRecDepth 100000 in
theorem bound12 (Q T : ByteArray) (z : Int) (hz : -128 ≤ z ∧ z ≤ 127) (w : World) : Calls Try.prog 12 #[.agg #[.string Q, .string T, .int .i8 z]] w fun e w1 => e = .returned (.int .i64 (bnd z : Nat)) ∧ Below w.heap.size w w1 := by
 refine calls_of_wp Try.func12 rfl ?_
 refine Fact.enter (n := 9) (by kernel_rfl) (fun fr hf hT => ?_)
 have s0 := hT 0 _ rfl
 clear hT
 obtain ⟨r, hr⟩ : ∃ r, z.tmod 4 = r := ⟨_, rfl⟩
 have hr1 : -3 ≤ r ∧ r ≤ 3 := by subst hr; exact tmod4 z
 obtain ⟨W0, hW0⟩ : ∃ W0, w.alloc (.cells #[.string Q, .string T, .int .i8 z] 24) = W0 := ⟨_, rfl⟩
 have hb0 : Below w.heap.size w W0 := by rw [← hW0]; exact (Below.refl _ _).alloc (Nat.le_refl _) _
 have hc0 : W0.cell? ⟨w.heap.size, 2, none⟩ = some (.int .i8 z) := by rw [← hW0]; exact cell_of_row _ _ 2 _ 24 (0, 0) (heap_alloc_new w _)
 have e1 : IntKind.i64.wrap z = z := Fact.wrap_i64 (by omega) (by omega)
 have e2 : IntKind.i64.wrap r = r := Fact.wrap_i64 (by omega) (by omega)
 have e3 : IntKind.i64.wrap (r + 4) = r + 4 := Fact.wrap_i64 (by omega) (by omega)
 refine wp_seq_k (fun K1 hK1 => ?_)
 refine Fact.region ?_
 refine Fact.p rfl fun K hK => ?_
 go_simp
 try rw [hW0]
 refine hK.out _ _ ?_; clear hK K
 refine Fact.p rfl fun K hK => ?_
 go_simp
 refine hK.out _ _ ?_; clear hK K
 refine Fact.nil ?_
 refine Fact.q hf (by simp only [Fact.G]) rfl fun fr1 hf1 hT => ?_
 have hKp : _ ∧ _ := ⟨hT 1, hT 2⟩
 simp only [Fact.G, Nat.reduceEqDiff, Nat.reduceLT, hf.size, reduceIte] at hKp
 clear hT hf s0
 obtain ⟨s1, s2⟩ := hKp
 have hf := hf1; clear hf1
 refine Fact.nx (hK1 _ _ ?_)
 refine wp_seq_k (fun K2 hK2 => ?_)
 refine Fact.region ?_
 have b3 := hf.l 3 rfl
 have b4 := hf.l 4 rfl
 have b5 := hf.l 5 rfl
 have b6 := hf.l 6 rfl
 have b7 := hf.l 7 rfl
 have b8 := hf.l 8 rfl
 refine Fact.p rfl fun K hK => ?_
 go_simp
 refine hK.out _ _ ?_; clear hK K
 refine Fact.p rfl fun K hK => ?_
 go_simp
 refine hK.out _ _ ?_; clear hK K
 refine Fact.p rfl fun K hK => ?_
 go_simp
 refine hK.out _ _ ?_; clear hK K
 refine Fact.p rfl fun K hK => ?_
 go_simp
 refine hK.out _ _ ?_; clear hK K
 refine Fact.p rfl fun K hK => ?_
 go_simp
 try simp (disch := omega) only [Fact.wrap_i64, Fact.wrap_u8, Fact.wrap_u32, Fact.wrap_u64]
 refine hK.out _ _ ?_; clear hK K
 refine Fact.p rfl fun K hK => ?_
 go_simp
 refine hK.out _ _ ?_; clear hK K
 refine Fact.p rfl fun K hK => ?_
 go_simp
 refine hK.out _ _ ?_; clear hK K
 refine Fact.nil ?_
 refine Fact.q hf (by simp only [Fact.G]) rfl fun fr1 hf1 hT => ?_
 have hKp := hT 2
 simp only [Fact.G, Nat.reduceEqDiff, Nat.reduceLT, hf.size, reduceIte] at hKp
 clear hT hf s1 s2 b3 b4 b5 b6 b7 b8
 have s2 := hKp; clear hKp
 have hf := hf1; clear hf1
 refine Fact.nx (hK2 _ _ ?_)
 refine wp_ret ?_
 exact Fact.ret1 rfl hf s2 ⟨by rw [bnd_eq, hr], hb0⟩
end Lv
end Go.Proofs.Ytfgfichkcckhiaa
