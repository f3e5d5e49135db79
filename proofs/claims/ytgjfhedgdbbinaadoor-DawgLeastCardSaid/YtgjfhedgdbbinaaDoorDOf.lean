/- cedillaref05: Of. -/
import Derived.Test.YtgjfhedgdbbinaaDoorDWal3
import Derived.Test.YtgjfhedgdbbinaaDoorDBld2
import Derived.Test.YtgjfhedgdbbinaaDoorTools
namespace Go.Proofs.YtgjfhedgdbbinaaDoor
open Go.RowKit
set_option linter.unusedSimpArgs false
set_option linter.unusedVariables false
set_option linter.unnecessarySimpa false
namespace Dw

set_option maxHeartbeats 4000000 in
set_option maxRecDepth 100000 in
theorem of36 (w : World) (s : ByteArray) (n : Nat) (hn : n < M64) : Calls Tryd.prog 36 #[.string s, .int .u64 n] w fun e w1 => e = .returned (.tuple #[eval (ofE s n), .bool (ofB n)]) ∧ Below w.heap.size w w1 := by
 refine calls_of_wp Tryd.func36 rfl ?_
 refine Fact.en 18 fun fr hf hT => ?_
 have s0 := hT 0 _ rfl
 have s1 := hT 1 _ rfl
 clear hT
 refine Fact.sq fun K1 hK1 => ?_
 refine rg ?_
 refine fp fun K Z => ?_
 go_simp
 apply Z.out; clear Z K
 refine fp fun K Z => ?_
 go_simp
 apply Z.out; clear Z K
 refine Fact.z hf fun fr1 hf1 hT => ?_
 have hKp : _ ∧ _ ∧ _ := ⟨hT 0, hT 1, hT 4⟩
 simp (decide := true) only [Fact.G, hf.size, reduceIte, s0, s1] at hKp
 replace hf := hf1; clear hT hf1 s0 s1
 obtain ⟨s0, s1, s4⟩ := hKp
 obtain ⟨W0, hW0⟩ : ∃ W0, w.alloc (.cells #[.string ⟨#[]⟩, .int .u32 0, .bool false] 42) = W0 := ⟨_, rfl⟩
 try rw [hW0]
 obtain ⟨hb0, c0, c1, c2, hx0, -⟩ := box3 hW0
 clear hW0
 have f0 := frozen_of (i := 0) hx0; have f1 := frozen_of (i := 1) hx0; have f2 := frozen_of (i := 2) hx0
 refine nx (hK1 _ _ ?_)
 refine Fact.sq fun K2 hK2 => ?_
 refine Fact.sq fun K3 hK3 => ?_
 refine rg ?_
 have b6 := hf.b 6
 refine fp fun K Z => ?_
 go_simp
 apply Z.out; clear Z K
 refine fp fun K Z => ?_
 go_simp
 apply Z.out; clear Z K
 refine Fact.z hf fun fr1 hf1 hT => ?_
 have hKp : _ ∧ _ ∧ _ ∧ _ := ⟨hT 0, hT 1, hT 4, hT 7⟩
 simp (decide := true) only [Fact.G, hf.size, reduceIte, s0, s1, s4] at hKp
 replace hf := hf1; clear hT hf1 s0 s1 s4 b6
 obtain ⟨s0, s1, s4, s7⟩ := hKp
 refine nx (hK3 _ _ ?_)
 refine Fact.cond_s s7 (fun hq => ?_) (fun hq => ?_)
 · (
 have h9 := of_decide_eq_true hq
 clear hq
 refine Fact.sq fun K4 hK4 => ?_
 refine rg ?_
 have b8 := hf.b 8
 refine fp fun K Z => ?_
 go_simp
 apply Z.out; clear Z K
 refine fp fun K Z => ?_
 go_simp
 apply Z.out; clear Z K
 refine fp fun K Z => ?_
 go_simp
 apply Z.out; clear Z K
 refine Fact.z hf fun fr1 hf1 hT => ?_
 have hKp : _ ∧ _ := ⟨hT 4, hT 5⟩
 simp (decide := true) only [Fact.G, hf.size, reduceIte, s4] at hKp
 replace hf := hf1; clear hT hf1 s0 s1 s4 s7 b8
 obtain ⟨s4, s5⟩ := hKp
 refine nx (hK4 _ _ ?_)
 refine wp_ret ?_
 refine Fact.then_ret ?_
 refine ret_ct rfl hf s4 s5 (set_block (set_block (set_block hx0 _) _) _) Tryd.underlying42 rfl (by kernel_rfl) ⟨?_, ((hb0.setCell (p := ⟨w.heap.size, 0, none⟩) (Nat.le_refl _) _).setCell (p := ⟨w.heap.size, 1, none⟩) (Nat.le_refl _) _).setCell (p := ⟨w.heap.size, 2, none⟩) (Nat.le_refl _) _⟩
 unfold ofE ofB
 rw [if_pos (by omega), decide_eq_true (by omega)]
 rfl)
 · (
 have h9 := of_decide_eq_false hq
 clear hq
 refine wp_skip ?_
 refine nx (hK2 _ _ ?_)
 refine Fact.sq fun K5 hK5 => ?_
 refine Fact.sq fun K6 hK6 => ?_
 refine rg ?_
 have b9 := hf.b 9
 refine fp fun K Z => ?_
 go_simp
 apply Z.out; clear Z K
 refine fp fun K Z => ?_
 go_simp
 apply Z.out; clear Z K
 refine Fact.z hf fun fr1 hf1 hT => ?_
 have hKp : _ ∧ _ ∧ _ ∧ _ := ⟨hT 0, hT 1, hT 4, hT 10⟩
 simp (decide := true) only [Fact.G, hf.size, reduceIte, s0, s1, s4] at hKp
 replace hf := hf1; clear hT hf1 s0 s1 s4 s7 b9
 obtain ⟨s0, s1, s4, s10⟩ := hKp
 refine nx (hK6 _ _ ?_)
 refine Fact.cond_s s10 (fun hq => ?_) (fun hq => ?_)
 · (
 have h8 := of_decide_eq_true hq
 clear hq
 refine Fact.sq fun K7 hK7 => ?_
 refine rg ?_
 have b11 := hf.b 11
 have b12 := hf.b 12
 refine fp fun K Z => ?_
 go_simp
 apply Z.out; clear Z K
 refine fp fun K Z => ?_
 go_simp
 apply Z.out; clear Z K
 refine fp fun K Z => ?_
 go_simp
 apply Z.out; clear Z K
 refine fp fun K Z => ?_
 go_simp
 apply Z.out; clear Z K
 refine Fact.z hf fun fr1 hf1 hT => ?_
 have hKp : _ ∧ _ := ⟨hT 4, hT 5⟩
 simp (decide := true) only [Fact.G, hf.size, reduceIte, s4] at hKp
 replace hf := hf1; clear hT hf1 s0 s1 s4 s10 b11 b12
 obtain ⟨s4, s5⟩ := hKp
 refine nx (hK7 _ _ ?_)
 refine wp_ret ?_
 refine Fact.then_ret ?_
 refine ret_ct rfl hf s4 s5 (set_block (set_block (set_block hx0 _) _) _) Tryd.underlying42 rfl (by kernel_rfl) ⟨?_, ((hb0.setCell (p := ⟨w.heap.size, 0, none⟩) (Nat.le_refl _) _).setCell (p := ⟨w.heap.size, 1, none⟩) (Nat.le_refl _) _).setCell (p := ⟨w.heap.size, 2, none⟩) (Nat.le_refl _) _⟩
 unfold ofE ofB
 rw [if_neg (by omega), if_pos (by omega), decide_eq_false (by omega)]
 rfl)
 · (
 have h8 := of_decide_eq_false hq
 clear hq
 refine wp_skip ?_
 refine nx (hK5 _ _ ?_)
 refine Fact.sq fun K8 hK8 => ?_
 refine rg ?_
 have b13 := hf.b 13
 have b14 := hf.b 14
 have b15 := hf.b 15
 have b16 := hf.b 16
 have b17 := hf.b 17
 refine fp fun K Z => ?_
 go_simp
 apply Z.out; clear Z K
 refine fp fun K Z => ?_
 go_simp
 apply Z.out; clear Z K
 refine fp fun K Z => ?_
 go_simp
 try simp (disch := omega) only [Fact.W]
 apply Z.out; clear Z K
 refine fp fun K Z => ?_
 go_simp
 rw [Fact.wrap_u32 (by omega) (by omega)]
 apply Z.out; clear Z K
 refine fp fun K Z => ?_
 go_simp
 apply Z.out; clear Z K
 refine fp fun K Z => ?_
 go_simp
 apply Z.out; clear Z K
 refine fp fun K Z => ?_
 go_simp
 apply Z.out; clear Z K
 refine Fact.z hf fun fr1 hf1 hT => ?_
 have hKp : _ ∧ _ := ⟨hT 4, hT 5⟩
 simp (decide := true) only [Fact.G, hf.size, reduceIte, s4] at hKp
 replace hf := hf1; clear hT hf1 s0 s1 s4 s10 b13 b14 b15 b16 b17
 obtain ⟨s4, s5⟩ := hKp
 refine nx (hK8 _ _ ?_)
 refine wp_ret ?_
 refine ret_ct rfl hf s4 s5 (set_block (set_block (set_block hx0 _) _) _) Tryd.underlying42 rfl (by kernel_rfl) ⟨?_, ((hb0.setCell (p := ⟨w.heap.size, 0, none⟩) (Nat.le_refl _) _).setCell (p := ⟨w.heap.size, 1, none⟩) (Nat.le_refl _) _).setCell (p := ⟨w.heap.size, 2, none⟩) (Nat.le_refl _) _⟩
 unfold ofE ofB
 rw [if_neg (by omega), if_neg (by omega), decide_eq_false (by omega)]
 rw [show ((n - 1 : Nat) : Int) = (n : Int) - 1 by omega]
 rfl))
end Dw
end Go.Proofs.YtgjfhedgdbbinaaDoor
