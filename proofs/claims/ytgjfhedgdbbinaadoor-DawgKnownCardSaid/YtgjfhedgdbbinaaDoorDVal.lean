/- Dawg: an entry's value. -/
import Derived.Test.YtgjfhedgdbbinaaDoorDEnt
import Derived.WalkSmall
namespace Go.Proofs.YtgjfhedgdbbinaaDoor
open Go.RowKit
set_option linter.unusedSimpArgs false
set_option linter.unusedVariables false
set_option linter.unnecessarySimpa false
namespace Dw
set_option maxHeartbeats 4000000 in
set_option maxRecDepth 100000 in
theorem value47g (e : Ent) (he : okE e) (hg : e.gone = true) (w : World) : Calls Tryd.prog 47 #[eval e] w fun e1 w1 => e1 = .returned (.int .u64 (valE e : Nat)) ∧ Below w.heap.size w w1 := by
 refine calls_of_wp Tryd.func47 rfl ?_
 refine Fact.enter (n := 9) (by kernel_rfl) (fun fr hf hT => ?_)
 have s0 := hT 0 _ rfl
 clear hT
 simp only [eval] at s0
 have HG := Lib.hid hg; clear hg
 have hw1 := he.1; have hw2 := he.2
 refine wp_seq_k (fun K1 hK1 => ?_)
 refine Fact.region ?_
 refine Fact.p rfl fun K hK => ?_
 go_simp
 refine hK.out _ _ ?_; clear hK K
 refine Fact.p rfl fun K hK => ?_
 go_simp
 refine hK.out _ _ ?_; clear hK K
 refine Fact.nil ?_
 refine Fact.q hf (by simp only [Fact.G]) rfl fun fr1 hf1 hT => ?_
 have hKp : _ ∧ _ := ⟨hT 1, hT 2⟩
 simp only [Fact.G, Nat.reduceEqDiff, Nat.reduceLT, hf.size, reduceIte] at hKp
 clear hT hf s0
 obtain ⟨s1, s2⟩ := hKp
 have hf := hf1; clear hf1
 obtain ⟨W0, hW0⟩ : ∃ W0, w.alloc (.cells #[.string e.word, .int .u32 e.weight, .bool e.gone] 42) = W0 := ⟨_, rfl⟩
 try rw [hW0]
 obtain ⟨hb0, -, c1, c2, -, -⟩ := box3 hW0
 clear hW0
 refine Fact.nx (hK1 _ _ ?_)
 refine wp_seq_k (fun K2 hK2 => ?_)
 refine wp_seq_k (fun K3 hK3 => ?_)
 refine Fact.region ?_
 have b3 := hf.l 3 rfl
 refine Fact.p rfl fun K hK => ?_
 go_simp
 refine hK.out _ _ ?_; clear hK K
 refine Fact.p rfl fun K hK => ?_
 go_simp
 refine hK.out _ _ ?_; clear hK K
 refine Fact.nil ?_
 refine Fact.q hf (by simp only [Fact.G]) rfl fun fr1 hf1 hT => ?_
 have hKp : _ ∧ _ ∧ _ := ⟨hT 1, hT 2, hT 4⟩
 simp only [Fact.G, Nat.reduceEqDiff, Nat.reduceLT, hf.size, reduceIte, s1, s2] at hKp
 clear hT hf s1 s2 b3
 obtain ⟨s1, s2, s4⟩ := hKp
 have hf := hf1; clear hf1
 refine Fact.nx (hK3 _ _ ?_)
 rw [HG.out] at s4
 refine Fact.cond_t s4 ?_
 refine wp_seq_k (fun K4 hK4 => ?_)
 refine Fact.region ?_
 refine Fact.p rfl fun K hK => ?_
 go_simp
 refine hK.out _ _ ?_; clear hK K
 refine Fact.nil ?_
 refine Fact.q hf (by simp only [Fact.G]) rfl fun fr1 hf1 hT => ?_
 have hKp : _ ∧ _ := ⟨hT 1, hT 2⟩
 simp only [Fact.G, Nat.reduceEqDiff, Nat.reduceLT, hf.size, reduceIte, s1] at hKp
 clear hT hf s1 s2 s4
 obtain ⟨s1, s2⟩ := hKp
 have hf := hf1; clear hf1
 refine Fact.nx (hK4 _ _ ?_)
 refine wp_ret ?_
 refine Fact.then_ret ?_
 exact Fact.ret1 rfl hf s2 ⟨by simp [valE, HG.out], hb0⟩
set_option maxHeartbeats 4000000 in
set_option maxRecDepth 100000 in
theorem value47n (e : Ent) (he : okE e) (hg : e.gone = false) (w : World) : Calls Tryd.prog 47 #[eval e] w fun e1 w1 => e1 = .returned (.int .u64 (valE e : Nat)) ∧ Below w.heap.size w w1 := by
 refine calls_of_wp Tryd.func47 rfl ?_
 refine Fact.enter (n := 9) (by kernel_rfl) (fun fr hf hT => ?_)
 have s0 := hT 0 _ rfl
 clear hT
 simp only [eval] at s0
 have HG := Lib.hid hg; clear hg
 have hw1 := he.1; have hw2 := he.2
 refine wp_seq_k (fun K1 hK1 => ?_)
 refine Fact.region ?_
 refine Fact.p rfl fun K hK => ?_
 go_simp
 refine hK.out _ _ ?_; clear hK K
 refine Fact.p rfl fun K hK => ?_
 go_simp
 refine hK.out _ _ ?_; clear hK K
 refine Fact.nil ?_
 refine Fact.q hf (by simp only [Fact.G]) rfl fun fr1 hf1 hT => ?_
 have hKp : _ ∧ _ := ⟨hT 1, hT 2⟩
 simp only [Fact.G, Nat.reduceEqDiff, Nat.reduceLT, hf.size, reduceIte] at hKp
 clear hT hf s0
 obtain ⟨s1, s2⟩ := hKp
 have hf := hf1; clear hf1
 obtain ⟨W0, hW0⟩ : ∃ W0, w.alloc (.cells #[.string e.word, .int .u32 e.weight, .bool e.gone] 42) = W0 := ⟨_, rfl⟩
 try rw [hW0]
 obtain ⟨hb0, -, c1, c2, -, -⟩ := box3 hW0
 clear hW0
 refine Fact.nx (hK1 _ _ ?_)
 refine wp_seq_k (fun K2 hK2 => ?_)
 refine wp_seq_k (fun K3 hK3 => ?_)
 refine Fact.region ?_
 have b3 := hf.l 3 rfl
 refine Fact.p rfl fun K hK => ?_
 go_simp
 refine hK.out _ _ ?_; clear hK K
 refine Fact.p rfl fun K hK => ?_
 go_simp
 refine hK.out _ _ ?_; clear hK K
 refine Fact.nil ?_
 refine Fact.q hf (by simp only [Fact.G]) rfl fun fr1 hf1 hT => ?_
 have hKp : _ ∧ _ ∧ _ := ⟨hT 1, hT 2, hT 4⟩
 simp only [Fact.G, Nat.reduceEqDiff, Nat.reduceLT, hf.size, reduceIte, s1, s2] at hKp
 clear hT hf s1 s2 b3
 obtain ⟨s1, s2, s4⟩ := hKp
 have hf := hf1; clear hf1
 refine Fact.nx (hK3 _ _ ?_)
 rw [HG.out] at s4
 refine Fact.cond_f s4 ?_
 refine wp_skip ?_
 refine Fact.nx (hK2 _ _ ?_)
 refine wp_seq_k (fun K4 hK4 => ?_)
 refine Fact.region ?_
 have b5 := hf.l 5 rfl
 have b6 := hf.l 6 rfl
 have b7 := hf.l 7 rfl
 have b8 := hf.l 8 rfl
 refine Fact.p rfl fun K hK => ?_
 go_simp
 refine hK.out _ _ ?_; clear hK K
 refine Fact.p rfl fun K hK => ?_
 go_simp
 refine hK.out _ _ ?_; clear hK K
 refine Fact.p rfl fun K hK => ?_
 go_simp
 try simp (disch := omega) only [Fact.wrap_u64]
 refine hK.out _ _ ?_; clear hK K
 refine Fact.p rfl fun K hK => ?_
 go_simp
 try simp (disch := omega) only [Fact.wrap_i64, Fact.wrap_u8, Fact.wrap_u32, Fact.wrap_u64]
 try simp (disch := omega) only [Fact.wrap_u64]
 rw [show e.weight + 1 = ((valE e : Nat) : Int) by simp only [valE, HG.out]; simp; omega]
 refine hK.out _ _ ?_; clear hK K
 refine Fact.p rfl fun K hK => ?_
 go_simp
 refine hK.out _ _ ?_; clear hK K
 refine Fact.nil ?_
 refine Fact.q hf (by simp only [Fact.G]) rfl fun fr1 hf1 hT => ?_
 have hKp := hT 2
 simp only [Fact.G, Nat.reduceEqDiff, Nat.reduceLT, hf.size, reduceIte] at hKp
 clear hT hf s1 s2 s4 b5 b6 b7 b8
 have s2 := hKp; clear hKp
 have hf := hf1; clear hf1
 refine Fact.nx (hK4 _ _ ?_)
 refine wp_ret ?_
 exact Fact.ret1 rfl hf s2 ⟨rfl, hb0⟩
theorem value47 (e : Ent) (he : okE e) (w : World) : Calls Tryd.prog 47 #[eval e] w fun e1 w1 => e1 = .returned (.int .u64 (valE e : Nat)) ∧ Below w.heap.size w w1 := by
  cases hg : e.gone with
  | true => exact value47g e he hg w
  | false => exact value47n e he hg w

end Dw
end Go.Proofs.YtgjfhedgdbbinaaDoor
