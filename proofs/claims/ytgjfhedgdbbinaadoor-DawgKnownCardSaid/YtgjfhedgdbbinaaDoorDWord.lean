/- Dawg: words in order, words as they may be. -/
import Derived.Test.YtgjfhedgdbbinaaDoorDEnt
import Derived.Test.YtgjfhedgdbbinaaDoorDLaw2
import Derived.Test.YtgjfhedgdbbinaaDoorScope
import Derived.WalkSmall
namespace Go.Proofs.YtgjfhedgdbbinaaDoor
open Go.RowKit
set_option linter.unusedSimpArgs false
set_option linter.unusedVariables false
set_option linter.unnecessarySimpa false
namespace Dw

theorem less_list : ∀ (a b : List UInt8), Op.bytesLess a b = lexlt (a.map UInt8.toNat) (b.map UInt8.toNat)
  | a, [] => by cases a <;> simp [Op.bytesLess, lexlt]
  | [], b :: l => by simp [Op.bytesLess, lexlt]
  | a :: x, b :: y => by
    simp only [Op.bytesLess, List.map_cons, lexlt]
    rw [less_list x y]
    congr 1
    · congr 1
      by_cases h : a = b
      · subst h; simp
      · have : a.toNat ≠ b.toNat := fun e => h (UInt8.toNat_inj.1 e)
        simp [h, this]
theorem less_eq (a b : ByteArray) : Op.bytesLess a.toList b.toList = lexlt (wl a) (wl b) := by
  rw [ByteArray.toList_eq, ByteArray.toList_eq, less_list]
  rfl
/-- a word as it may be -/
def okW (s : ByteArray) : Bool := !s.toList.isEmpty && decide (s.size ≤ 255)
set_option maxHeartbeats 4000000 in
set_option maxRecDepth 100000 in
theorem nan61 (s : ByteArray) (w : World) : Calls Tryd.prog 61 #[.string s] w fun e w1 => e = .returned (.bool false) ∧ w = w1 := by
 refine calls_of_wp Tryd.func61 rfl ?_
 refine Fact.enter (n := 6) (by kernel_rfl) (fun fr hf hT => ?_)
 have s0 := hT 0 _ rfl
 clear hT
 refine wp_seq_k (fun K1 hK1 => ?_)
 refine Fact.region ?_
 refine Fact.p rfl fun K hK => ?_
 go_simp
 refine hK.out _ _ ?_; clear hK K
 refine Fact.nil ?_
 refine Fact.q hf (by simp only [Fact.G]) rfl fun fr1 hf1 hT => ?_
 have hKp : _ ∧ _ := ⟨hT 0, hT 2⟩
 simp only [Fact.G, Nat.reduceEqDiff, Nat.reduceLT, hf.size, reduceIte, s0] at hKp
 clear hT hf s0
 obtain ⟨s0, s2⟩ := hKp
 have hf := hf1; clear hf1
 refine Fact.nx (hK1 _ _ ?_)
 refine wp_seq_k (fun K2 hK2 => ?_)
 refine Fact.region ?_
 have b3 := hf.l 3 rfl
 have b4 := hf.l 4 rfl
 have b5 := hf.l 5 rfl
 refine Fact.p rfl fun K hK => ?_
 go_simp
 refine hK.out _ _ ?_; clear hK K
 refine Fact.p rfl fun K hK => ?_
 go_simp
 refine hK.out _ _ ?_; clear hK K
 refine Fact.p rfl fun K hK => ?_
 go_simp
 refine hK.out _ _ ?_; clear hK K
 refine Fact.p rfl fun K hK => ?_
 go_simp
 refine hK.out _ _ ?_; clear hK K
 refine Fact.nil ?_
 refine Fact.q hf (by simp only [Fact.G]) rfl fun fr1 hf1 hT => ?_
 have hKp := hT 2
 simp only [Fact.G, Nat.reduceEqDiff, Nat.reduceLT, hf.size, reduceIte] at hKp
 clear hT hf s0 s2 b3 b4 b5
 have s2 := hKp; clear hKp
 have hf := hf1; clear hf1
 refine Fact.nx (hK2 _ _ ?_)
 refine wp_ret ?_
 exact Fact.ret1 rfl hf s2 ⟨rfl, rfl⟩
set_option maxHeartbeats 4000000 in
set_option maxRecDepth 100000 in
theorem cmp54lt (a b : ByteArray) (h1 : Op.bytesLess a.toList b.toList = true) (w : World) : Calls Tryd.prog 54 #[.string a, .string b] w fun e w1 => e = .returned (.int .i64 (-1)) ∧ w = w1 := by
 refine calls_of_wp Tryd.func54 rfl ?_
 refine Fact.enter (n := 20) (by kernel_rfl) (fun fr hf hT => ?_)
 have s0 := hT 0 _ rfl
 have s1 := hT 1 _ rfl
 clear hT
 have r1 := h1
 have r2 := trivial
 refine wp_seq_k (fun K1 hK1 => ?_)
 refine Fact.region ?_
 refine Fact.p rfl fun K hK => ?_
 go_simp
 refine hK.out _ _ ?_; clear hK K
 refine Fact.nil ?_
 refine Fact.q hf (by simp only [Fact.G]) rfl fun fr1 hf1 hT => ?_
 have hKp : _ ∧ _ ∧ _ := ⟨hT 0, hT 1, hT 4⟩
 simp only [Fact.G, Nat.reduceEqDiff, Nat.reduceLT, hf.size, reduceIte, s0, s1] at hKp
 clear hT hf s0 s1
 obtain ⟨s0, s1, s4⟩ := hKp
 have hf := hf1; clear hf1
 refine Fact.nx (hK1 _ _ ?_)
 refine wp_seq_k (fun K2 hK2 => ?_)
 refine Fact.region ?_
 have b7 := hf.l 7 rfl
 have b8 := hf.l 8 rfl
 refine Fact.p rfl fun K hK => ?_
 go_simp
 refine hK.out _ _ ?_; clear hK K
 refine Fact.p rfl fun K hK => ?_
 go_simp
 go_at_call 61; refine (nan61 a w).mono ?_; rintro e w1 ⟨rfl, rfl⟩
 dsimp only
 refine hK.out _ _ ?_; clear hK K
 refine Fact.p rfl fun K hK => ?_
 go_simp
 refine hK.out _ _ ?_; clear hK K
 refine Fact.nil ?_
 refine Fact.q hf (by simp only [Fact.G]) rfl fun fr1 hf1 hT => ?_
 have hKp : _ ∧ _ ∧ _ ∧ _ := ⟨hT 0, hT 1, hT 4, hT 5⟩
 simp only [Fact.G, Nat.reduceEqDiff, Nat.reduceLT, hf.size, reduceIte, s0, s1, s4] at hKp
 clear hT hf s0 s1 s4 b7 b8
 obtain ⟨s0, s1, s4, s5⟩ := hKp
 have hf := hf1; clear hf1
 refine Fact.nx (hK2 _ _ ?_)
 refine wp_seq_k (fun K3 hK3 => ?_)
 refine Fact.region ?_
 have b9 := hf.l 9 rfl
 have b10 := hf.l 10 rfl
 refine Fact.p rfl fun K hK => ?_
 go_simp
 refine hK.out _ _ ?_; clear hK K
 refine Fact.p rfl fun K hK => ?_
 go_simp
 go_at_call 61; refine (nan61 b w).mono ?_; rintro e w2 ⟨rfl, rfl⟩
 dsimp only
 refine hK.out _ _ ?_; clear hK K
 refine Fact.p rfl fun K hK => ?_
 go_simp
 refine hK.out _ _ ?_; clear hK K
 refine Fact.nil ?_
 refine Fact.q hf (by simp only [Fact.G]) rfl fun fr1 hf1 hT => ?_
 have hKp : _ ∧ _ ∧ _ ∧ _ ∧ _ := ⟨hT 0, hT 1, hT 4, hT 5, hT 6⟩
 simp only [Fact.G, Nat.reduceEqDiff, Nat.reduceLT, hf.size, reduceIte, s0, s1, s4, s5] at hKp
 clear hT hf s0 s1 s4 s5 b9 b10
 obtain ⟨s0, s1, s4, s5, s6⟩ := hKp
 have hf := hf1; clear hf1
 refine Fact.nx (hK3 _ _ ?_)
 refine wp_seq_k (fun K4 hK4 => ?_)
 refine wp_seq_k (fun K5 hK5 => ?_)
 refine Fact.region ?_
 refine Fact.p rfl fun K hK => ?_
 go_simp
 refine hK.out _ _ ?_; clear hK K
 refine Fact.nil ?_
 refine Fact.q hf (by simp only [Fact.G]) rfl fun fr1 hf1 hT => ?_
 have hKp : _ ∧ _ ∧ _ ∧ _ ∧ _ := ⟨hT 0, hT 1, hT 4, hT 6, hT 11⟩
 simp only [Fact.G, Nat.reduceEqDiff, Nat.reduceLT, hf.size, reduceIte, s0, s1, s4, s6] at hKp
 clear hT hf s0 s1 s4 s5 s6
 obtain ⟨s0, s1, s4, s6, s11⟩ := hKp
 have hf := hf1; clear hf1
 refine Fact.nx (hK5 _ _ ?_)
 refine Fact.cond_f s11 ?_
 refine wp_skip ?_
 refine Fact.nx (hK4 _ _ ?_)
 refine wp_seq_k (fun K6 hK6 => ?_)
 refine wp_seq_k (fun K7 hK7 => ?_)
 refine Fact.region ?_
 refine Fact.p rfl fun K hK => ?_
 go_simp
 refine hK.out _ _ ?_; clear hK K
 refine Fact.nil ?_
 refine Fact.q hf (by simp only [Fact.G]) rfl fun fr1 hf1 hT => ?_
 have hKp : _ ∧ _ ∧ _ ∧ _ := ⟨hT 0, hT 1, hT 4, hT 13⟩
 simp only [Fact.G, Nat.reduceEqDiff, Nat.reduceLT, hf.size, reduceIte, s0, s1, s4] at hKp
 clear hT hf s0 s1 s4 s6 s11
 obtain ⟨s0, s1, s4, s13⟩ := hKp
 have hf := hf1; clear hf1
 refine Fact.nx (hK7 _ _ ?_)
 refine Fact.cond_f s13 ?_
 refine wp_skip ?_
 refine Fact.nx (hK6 _ _ ?_)
 refine wp_seq_k (fun K8 hK8 => ?_)
 refine wp_seq_k (fun K9 hK9 => ?_)
 refine Fact.region ?_
 have b14 := hf.l 14 rfl
 have b15 := hf.l 15 rfl
 refine Fact.p rfl fun K hK => ?_
 go_simp
 refine hK.out _ _ ?_; clear hK K
 refine Fact.p rfl fun K hK => ?_
 go_simp
 refine hK.out _ _ ?_; clear hK K
 refine Fact.p rfl fun K hK => ?_
 go_simp
 refine hK.out _ _ ?_; clear hK K
 refine Fact.nil ?_
 refine Fact.q hf (by simp only [Fact.G]) rfl fun fr1 hf1 hT => ?_
 have hKp : _ ∧ _ ∧ _ ∧ _ := ⟨hT 0, hT 1, hT 4, hT 16⟩
 simp only [Fact.G, Nat.reduceEqDiff, Nat.reduceLT, hf.size, reduceIte, s0, s1, s4] at hKp
 clear hT hf s0 s1 s4 s13 b14 b15
 obtain ⟨s0, s1, s4, s16⟩ := hKp
 have hf := hf1; clear hf1
 refine Fact.nx (hK9 _ _ ?_)
 refine Fact.cond_t s16 ?_
 refine wp_seq_k (fun K10 hK10 => ?_)
 refine Fact.region ?_
 refine Fact.p rfl fun K hK => ?_
 go_simp
 refine hK.out _ _ ?_; clear hK K
 refine Fact.nil ?_
 refine Fact.q hf (by simp only [Fact.G]) rfl fun fr1 hf1 hT => ?_
 have hKp : _ ∧ _ ∧ _ := ⟨hT 0, hT 1, hT 4⟩
 simp only [Fact.G, Nat.reduceEqDiff, Nat.reduceLT, hf.size, reduceIte, s0, s1] at hKp
 clear hT hf s0 s1 s4 s16
 obtain ⟨s0, s1, s4⟩ := hKp
 have hf := hf1; clear hf1
 refine Fact.nx (hK10 _ _ ?_)
 refine wp_ret ?_
 refine Fact.then_ret ?_
 exact Fact.ret1 rfl hf s4 ⟨rfl, rfl⟩
set_option maxHeartbeats 4000000 in
set_option maxRecDepth 100000 in
theorem cmp54gt (a b : ByteArray) (h1 : Op.bytesLess a.toList b.toList = false) (h2 : (a.toList == b.toList) = false) (w : World) : Calls Tryd.prog 54 #[.string a, .string b] w fun e w1 => e = .returned (.int .i64 (1)) ∧ w = w1 := by
 refine calls_of_wp Tryd.func54 rfl ?_
 refine Fact.enter (n := 20) (by kernel_rfl) (fun fr hf hT => ?_)
 have s0 := hT 0 _ rfl
 have s1 := hT 1 _ rfl
 clear hT
 have r1 := h1
 have r2 := h2
 refine wp_seq_k (fun K1 hK1 => ?_)
 refine Fact.region ?_
 refine Fact.p rfl fun K hK => ?_
 go_simp
 refine hK.out _ _ ?_; clear hK K
 refine Fact.nil ?_
 refine Fact.q hf (by simp only [Fact.G]) rfl fun fr1 hf1 hT => ?_
 have hKp : _ ∧ _ ∧ _ := ⟨hT 0, hT 1, hT 4⟩
 simp only [Fact.G, Nat.reduceEqDiff, Nat.reduceLT, hf.size, reduceIte, s0, s1] at hKp
 clear hT hf s0 s1
 obtain ⟨s0, s1, s4⟩ := hKp
 have hf := hf1; clear hf1
 refine Fact.nx (hK1 _ _ ?_)
 refine wp_seq_k (fun K2 hK2 => ?_)
 refine Fact.region ?_
 have b7 := hf.l 7 rfl
 have b8 := hf.l 8 rfl
 refine Fact.p rfl fun K hK => ?_
 go_simp
 refine hK.out _ _ ?_; clear hK K
 refine Fact.p rfl fun K hK => ?_
 go_simp
 go_at_call 61; refine (nan61 a w).mono ?_; rintro e w1 ⟨rfl, rfl⟩
 dsimp only
 refine hK.out _ _ ?_; clear hK K
 refine Fact.p rfl fun K hK => ?_
 go_simp
 refine hK.out _ _ ?_; clear hK K
 refine Fact.nil ?_
 refine Fact.q hf (by simp only [Fact.G]) rfl fun fr1 hf1 hT => ?_
 have hKp : _ ∧ _ ∧ _ ∧ _ := ⟨hT 0, hT 1, hT 4, hT 5⟩
 simp only [Fact.G, Nat.reduceEqDiff, Nat.reduceLT, hf.size, reduceIte, s0, s1, s4] at hKp
 clear hT hf s0 s1 s4 b7 b8
 obtain ⟨s0, s1, s4, s5⟩ := hKp
 have hf := hf1; clear hf1
 refine Fact.nx (hK2 _ _ ?_)
 refine wp_seq_k (fun K3 hK3 => ?_)
 refine Fact.region ?_
 have b9 := hf.l 9 rfl
 have b10 := hf.l 10 rfl
 refine Fact.p rfl fun K hK => ?_
 go_simp
 refine hK.out _ _ ?_; clear hK K
 refine Fact.p rfl fun K hK => ?_
 go_simp
 go_at_call 61; refine (nan61 b w).mono ?_; rintro e w2 ⟨rfl, rfl⟩
 dsimp only
 refine hK.out _ _ ?_; clear hK K
 refine Fact.p rfl fun K hK => ?_
 go_simp
 refine hK.out _ _ ?_; clear hK K
 refine Fact.nil ?_
 refine Fact.q hf (by simp only [Fact.G]) rfl fun fr1 hf1 hT => ?_
 have hKp : _ ∧ _ ∧ _ ∧ _ ∧ _ := ⟨hT 0, hT 1, hT 4, hT 5, hT 6⟩
 simp only [Fact.G, Nat.reduceEqDiff, Nat.reduceLT, hf.size, reduceIte, s0, s1, s4, s5] at hKp
 clear hT hf s0 s1 s4 s5 b9 b10
 obtain ⟨s0, s1, s4, s5, s6⟩ := hKp
 have hf := hf1; clear hf1
 refine Fact.nx (hK3 _ _ ?_)
 refine wp_seq_k (fun K4 hK4 => ?_)
 refine wp_seq_k (fun K5 hK5 => ?_)
 refine Fact.region ?_
 refine Fact.p rfl fun K hK => ?_
 go_simp
 refine hK.out _ _ ?_; clear hK K
 refine Fact.nil ?_
 refine Fact.q hf (by simp only [Fact.G]) rfl fun fr1 hf1 hT => ?_
 have hKp : _ ∧ _ ∧ _ ∧ _ ∧ _ := ⟨hT 0, hT 1, hT 4, hT 6, hT 11⟩
 simp only [Fact.G, Nat.reduceEqDiff, Nat.reduceLT, hf.size, reduceIte, s0, s1, s4, s6] at hKp
 clear hT hf s0 s1 s4 s5 s6
 obtain ⟨s0, s1, s4, s6, s11⟩ := hKp
 have hf := hf1; clear hf1
 refine Fact.nx (hK5 _ _ ?_)
 refine Fact.cond_f s11 ?_
 refine wp_skip ?_
 refine Fact.nx (hK4 _ _ ?_)
 refine wp_seq_k (fun K6 hK6 => ?_)
 refine wp_seq_k (fun K7 hK7 => ?_)
 refine Fact.region ?_
 refine Fact.p rfl fun K hK => ?_
 go_simp
 refine hK.out _ _ ?_; clear hK K
 refine Fact.nil ?_
 refine Fact.q hf (by simp only [Fact.G]) rfl fun fr1 hf1 hT => ?_
 have hKp : _ ∧ _ ∧ _ ∧ _ := ⟨hT 0, hT 1, hT 4, hT 13⟩
 simp only [Fact.G, Nat.reduceEqDiff, Nat.reduceLT, hf.size, reduceIte, s0, s1, s4] at hKp
 clear hT hf s0 s1 s4 s6 s11
 obtain ⟨s0, s1, s4, s13⟩ := hKp
 have hf := hf1; clear hf1
 refine Fact.nx (hK7 _ _ ?_)
 refine Fact.cond_f s13 ?_
 refine wp_skip ?_
 refine Fact.nx (hK6 _ _ ?_)
 refine wp_seq_k (fun K8 hK8 => ?_)
 refine wp_seq_k (fun K9 hK9 => ?_)
 refine Fact.region ?_
 have b14 := hf.l 14 rfl
 have b15 := hf.l 15 rfl
 refine Fact.p rfl fun K hK => ?_
 go_simp
 refine hK.out _ _ ?_; clear hK K
 refine Fact.p rfl fun K hK => ?_
 go_simp
 refine hK.out _ _ ?_; clear hK K
 refine Fact.p rfl fun K hK => ?_
 go_simp
 refine hK.out _ _ ?_; clear hK K
 refine Fact.nil ?_
 refine Fact.q hf (by simp only [Fact.G]) rfl fun fr1 hf1 hT => ?_
 have hKp : _ ∧ _ ∧ _ ∧ _ := ⟨hT 0, hT 1, hT 4, hT 16⟩
 simp only [Fact.G, Nat.reduceEqDiff, Nat.reduceLT, hf.size, reduceIte, s0, s1, s4] at hKp
 clear hT hf s0 s1 s4 s13 b14 b15
 obtain ⟨s0, s1, s4, s16⟩ := hKp
 have hf := hf1; clear hf1
 refine Fact.nx (hK9 _ _ ?_)
 refine Fact.cond_f s16 ?_
 refine wp_skip ?_
 refine Fact.nx (hK8 _ _ ?_)
 refine wp_seq_k (fun K10 hK10 => ?_)
 refine wp_seq_k (fun K11 hK11 => ?_)
 refine Fact.region ?_
 have b17 := hf.l 17 rfl
 have b18 := hf.l 18 rfl
 refine Fact.p rfl fun K hK => ?_
 go_simp
 refine hK.out _ _ ?_; clear hK K
 refine Fact.p rfl fun K hK => ?_
 go_simp
 refine hK.out _ _ ?_; clear hK K
 refine Fact.p rfl fun K hK => ?_
 go_simp
 refine hK.out _ _ ?_; clear hK K
 refine Fact.nil ?_
 refine Fact.q hf (by simp only [Fact.G]) rfl fun fr1 hf1 hT => ?_
 have hKp : _ ∧ _ := ⟨hT 4, hT 19⟩
 simp only [Fact.G, Nat.reduceEqDiff, Nat.reduceLT, hf.size, reduceIte, s4] at hKp
 clear hT hf s0 s1 s4 s16 b17 b18
 obtain ⟨s4, s19⟩ := hKp
 have hf := hf1; clear hf1
 refine Fact.nx (hK11 _ _ ?_)
 rw [r1, r2] at s19
 simp only [Bool.or_self, Bool.false_or, Bool.not_false, Bool.not_true] at s19
 refine Fact.cond_t s19 ?_
 refine wp_seq_k (fun K12 hK12 => ?_)
 refine Fact.region ?_
 refine Fact.p rfl fun K hK => ?_
 go_simp
 refine hK.out _ _ ?_; clear hK K
 refine Fact.nil ?_
 refine Fact.q hf (by simp only [Fact.G]) rfl fun fr1 hf1 hT => ?_
 have hKp := hT 4
 simp only [Fact.G, Nat.reduceEqDiff, Nat.reduceLT, hf.size, reduceIte] at hKp
 clear hT hf s4 s19
 have s4 := hKp; clear hKp
 have hf := hf1; clear hf1
 refine Fact.nx (hK12 _ _ ?_)
 refine wp_ret ?_
 refine Fact.then_ret ?_
 exact Fact.ret1 rfl hf s4 ⟨rfl, rfl⟩
set_option maxHeartbeats 4000000 in
set_option maxRecDepth 100000 in
theorem cmp54eq (a b : ByteArray) (h1 : Op.bytesLess a.toList b.toList = false) (h2 : (a.toList == b.toList) = true) (w : World) : Calls Tryd.prog 54 #[.string a, .string b] w fun e w1 => e = .returned (.int .i64 (0)) ∧ w = w1 := by
 refine calls_of_wp Tryd.func54 rfl ?_
 refine Fact.enter (n := 20) (by kernel_rfl) (fun fr hf hT => ?_)
 have s0 := hT 0 _ rfl
 have s1 := hT 1 _ rfl
 clear hT
 have r1 := h1
 have r2 := h2
 refine wp_seq_k (fun K1 hK1 => ?_)
 refine Fact.region ?_
 refine Fact.p rfl fun K hK => ?_
 go_simp
 refine hK.out _ _ ?_; clear hK K
 refine Fact.nil ?_
 refine Fact.q hf (by simp only [Fact.G]) rfl fun fr1 hf1 hT => ?_
 have hKp : _ ∧ _ ∧ _ := ⟨hT 0, hT 1, hT 4⟩
 simp only [Fact.G, Nat.reduceEqDiff, Nat.reduceLT, hf.size, reduceIte, s0, s1] at hKp
 clear hT hf s0 s1
 obtain ⟨s0, s1, s4⟩ := hKp
 have hf := hf1; clear hf1
 refine Fact.nx (hK1 _ _ ?_)
 refine wp_seq_k (fun K2 hK2 => ?_)
 refine Fact.region ?_
 have b7 := hf.l 7 rfl
 have b8 := hf.l 8 rfl
 refine Fact.p rfl fun K hK => ?_
 go_simp
 refine hK.out _ _ ?_; clear hK K
 refine Fact.p rfl fun K hK => ?_
 go_simp
 go_at_call 61; refine (nan61 a w).mono ?_; rintro e w1 ⟨rfl, rfl⟩
 dsimp only
 refine hK.out _ _ ?_; clear hK K
 refine Fact.p rfl fun K hK => ?_
 go_simp
 refine hK.out _ _ ?_; clear hK K
 refine Fact.nil ?_
 refine Fact.q hf (by simp only [Fact.G]) rfl fun fr1 hf1 hT => ?_
 have hKp : _ ∧ _ ∧ _ ∧ _ := ⟨hT 0, hT 1, hT 4, hT 5⟩
 simp only [Fact.G, Nat.reduceEqDiff, Nat.reduceLT, hf.size, reduceIte, s0, s1, s4] at hKp
 clear hT hf s0 s1 s4 b7 b8
 obtain ⟨s0, s1, s4, s5⟩ := hKp
 have hf := hf1; clear hf1
 refine Fact.nx (hK2 _ _ ?_)
 refine wp_seq_k (fun K3 hK3 => ?_)
 refine Fact.region ?_
 have b9 := hf.l 9 rfl
 have b10 := hf.l 10 rfl
 refine Fact.p rfl fun K hK => ?_
 go_simp
 refine hK.out _ _ ?_; clear hK K
 refine Fact.p rfl fun K hK => ?_
 go_simp
 go_at_call 61; refine (nan61 b w).mono ?_; rintro e w2 ⟨rfl, rfl⟩
 dsimp only
 refine hK.out _ _ ?_; clear hK K
 refine Fact.p rfl fun K hK => ?_
 go_simp
 refine hK.out _ _ ?_; clear hK K
 refine Fact.nil ?_
 refine Fact.q hf (by simp only [Fact.G]) rfl fun fr1 hf1 hT => ?_
 have hKp : _ ∧ _ ∧ _ ∧ _ ∧ _ := ⟨hT 0, hT 1, hT 4, hT 5, hT 6⟩
 simp only [Fact.G, Nat.reduceEqDiff, Nat.reduceLT, hf.size, reduceIte, s0, s1, s4, s5] at hKp
 clear hT hf s0 s1 s4 s5 b9 b10
 obtain ⟨s0, s1, s4, s5, s6⟩ := hKp
 have hf := hf1; clear hf1
 refine Fact.nx (hK3 _ _ ?_)
 refine wp_seq_k (fun K4 hK4 => ?_)
 refine wp_seq_k (fun K5 hK5 => ?_)
 refine Fact.region ?_
 refine Fact.p rfl fun K hK => ?_
 go_simp
 refine hK.out _ _ ?_; clear hK K
 refine Fact.nil ?_
 refine Fact.q hf (by simp only [Fact.G]) rfl fun fr1 hf1 hT => ?_
 have hKp : _ ∧ _ ∧ _ ∧ _ ∧ _ := ⟨hT 0, hT 1, hT 4, hT 6, hT 11⟩
 simp only [Fact.G, Nat.reduceEqDiff, Nat.reduceLT, hf.size, reduceIte, s0, s1, s4, s6] at hKp
 clear hT hf s0 s1 s4 s5 s6
 obtain ⟨s0, s1, s4, s6, s11⟩ := hKp
 have hf := hf1; clear hf1
 refine Fact.nx (hK5 _ _ ?_)
 refine Fact.cond_f s11 ?_
 refine wp_skip ?_
 refine Fact.nx (hK4 _ _ ?_)
 refine wp_seq_k (fun K6 hK6 => ?_)
 refine wp_seq_k (fun K7 hK7 => ?_)
 refine Fact.region ?_
 refine Fact.p rfl fun K hK => ?_
 go_simp
 refine hK.out _ _ ?_; clear hK K
 refine Fact.nil ?_
 refine Fact.q hf (by simp only [Fact.G]) rfl fun fr1 hf1 hT => ?_
 have hKp : _ ∧ _ ∧ _ ∧ _ := ⟨hT 0, hT 1, hT 4, hT 13⟩
 simp only [Fact.G, Nat.reduceEqDiff, Nat.reduceLT, hf.size, reduceIte, s0, s1, s4] at hKp
 clear hT hf s0 s1 s4 s6 s11
 obtain ⟨s0, s1, s4, s13⟩ := hKp
 have hf := hf1; clear hf1
 refine Fact.nx (hK7 _ _ ?_)
 refine Fact.cond_f s13 ?_
 refine wp_skip ?_
 refine Fact.nx (hK6 _ _ ?_)
 refine wp_seq_k (fun K8 hK8 => ?_)
 refine wp_seq_k (fun K9 hK9 => ?_)
 refine Fact.region ?_
 have b14 := hf.l 14 rfl
 have b15 := hf.l 15 rfl
 refine Fact.p rfl fun K hK => ?_
 go_simp
 refine hK.out _ _ ?_; clear hK K
 refine Fact.p rfl fun K hK => ?_
 go_simp
 refine hK.out _ _ ?_; clear hK K
 refine Fact.p rfl fun K hK => ?_
 go_simp
 refine hK.out _ _ ?_; clear hK K
 refine Fact.nil ?_
 refine Fact.q hf (by simp only [Fact.G]) rfl fun fr1 hf1 hT => ?_
 have hKp : _ ∧ _ ∧ _ ∧ _ := ⟨hT 0, hT 1, hT 4, hT 16⟩
 simp only [Fact.G, Nat.reduceEqDiff, Nat.reduceLT, hf.size, reduceIte, s0, s1, s4] at hKp
 clear hT hf s0 s1 s4 s13 b14 b15
 obtain ⟨s0, s1, s4, s16⟩ := hKp
 have hf := hf1; clear hf1
 refine Fact.nx (hK9 _ _ ?_)
 refine Fact.cond_f s16 ?_
 refine wp_skip ?_
 refine Fact.nx (hK8 _ _ ?_)
 refine wp_seq_k (fun K10 hK10 => ?_)
 refine wp_seq_k (fun K11 hK11 => ?_)
 refine Fact.region ?_
 have b17 := hf.l 17 rfl
 have b18 := hf.l 18 rfl
 refine Fact.p rfl fun K hK => ?_
 go_simp
 refine hK.out _ _ ?_; clear hK K
 refine Fact.p rfl fun K hK => ?_
 go_simp
 refine hK.out _ _ ?_; clear hK K
 refine Fact.p rfl fun K hK => ?_
 go_simp
 refine hK.out _ _ ?_; clear hK K
 refine Fact.nil ?_
 refine Fact.q hf (by simp only [Fact.G]) rfl fun fr1 hf1 hT => ?_
 have hKp : _ ∧ _ := ⟨hT 4, hT 19⟩
 simp only [Fact.G, Nat.reduceEqDiff, Nat.reduceLT, hf.size, reduceIte, s4] at hKp
 clear hT hf s0 s1 s4 s16 b17 b18
 obtain ⟨s4, s19⟩ := hKp
 have hf := hf1; clear hf1
 refine Fact.nx (hK11 _ _ ?_)
 rw [r1, r2] at s19
 simp only [Bool.or_self, Bool.false_or, Bool.not_false, Bool.not_true] at s19
 refine Fact.cond_f s19 ?_
 refine wp_skip ?_
 refine Fact.nx (hK10 _ _ ?_)
 refine wp_seq_k (fun K12 hK12 => ?_)
 refine Fact.region ?_
 refine Fact.p rfl fun K hK => ?_
 go_simp
 refine hK.out _ _ ?_; clear hK K
 refine Fact.nil ?_
 refine Fact.q hf (by simp only [Fact.G]) rfl fun fr1 hf1 hT => ?_
 have hKp := hT 4
 simp only [Fact.G, Nat.reduceEqDiff, Nat.reduceLT, hf.size, reduceIte] at hKp
 clear hT hf s4 s19
 have s4 := hKp; clear hKp
 have hf := hf1; clear hf1
 refine Fact.nx (hK12 _ _ ?_)
 refine wp_ret ?_
 exact Fact.ret1 rfl hf s4 ⟨rfl, rfl⟩
def cmpS (a b : ByteArray) : Int := if lexlt (wl a) (wl b) then -1 else if (a.toList == b.toList) = true then 0 else 1
theorem cmp54 (a b : ByteArray) (w : World) : Calls Tryd.prog 54 #[.string a, .string b] w fun e w1 => e = .returned (.int .i64 (cmpS a b)) ∧ w = w1 := by
  unfold cmpS
  rw [← less_eq]
  cases h1 : Op.bytesLess a.toList b.toList with
  | true => exact cmp54lt a b h1 w
  | false =>
    cases h2 : (a.toList == b.toList) with
    | true => exact cmp54eq a b h1 h2 w
    | false => exact cmp54gt a b h1 h2 w

set_option maxHeartbeats 4000000 in
set_option maxRecDepth 100000 in
theorem by46 (e : Ent) (b : ByteArray) (w : World) : Calls Tryd.prog 46 #[eval e, .string b] w fun e1 w1 => e1 = .returned (.int .i64 (cmpS e.word b)) ∧ Below w.heap.size w w1 := by
 refine calls_of_wp Tryd.func46 rfl ?_
 refine Fact.enter (n := 9) (by kernel_rfl) (fun fr hf hT => ?_)
 have s0 := hT 0 _ rfl
 have s1 := hT 1 _ rfl
 clear hT
 simp only [eval] at s0
 refine wp_seq_k (fun K1 hK1 => ?_)
 refine Fact.region ?_
 refine Fact.p rfl fun K hK => ?_
 go_simp
 refine hK.out _ _ ?_; clear hK K
 refine Fact.p rfl fun K hK => ?_
 go_simp
 refine hK.out _ _ ?_; clear hK K
 refine Fact.nil ?_
 refine Fact.q hf (by simp only [Fact.G]) rfl fun fr1 hf1 hT => ?_
 have hKp : _ ∧ _ ∧ _ := ⟨hT 1, hT 2, hT 4⟩
 simp only [Fact.G, Nat.reduceEqDiff, Nat.reduceLT, hf.size, reduceIte, s1] at hKp
 clear hT hf s0 s1
 obtain ⟨s1, s2, s4⟩ := hKp
 have hf := hf1; clear hf1
 refine Fact.nx (hK1 _ _ ?_)
 refine wp_seq_k (fun K2 hK2 => ?_)
 refine Fact.region ?_
 have b5 := hf.l 5 rfl
 have b6 := hf.l 6 rfl
 have b7 := hf.l 7 rfl
 have b8 := hf.l 8 rfl
 refine Fact.p rfl fun K hK => ?_
 go_simp
 refine hK.out _ _ ?_; clear hK K
 refine Fact.p rfl fun K hK => ?_
 go_simp
 refine hK.out _ _ ?_; clear hK K
 refine Fact.p rfl fun K hK => ?_
 go_simp
 refine hK.out _ _ ?_; clear hK K
 refine Fact.p rfl fun K hK => ?_
 go_simp
 go_at_call 54; refine (cmp54 e.word b (w.alloc (.cells #[.string e.word, .int .u32 e.weight, .bool e.gone] 42))).mono ?_; rintro e w2 ⟨rfl, rfl⟩
 dsimp only
 refine hK.out _ _ ?_; clear hK K
 refine Fact.p rfl fun K hK => ?_
 go_simp
 refine hK.out _ _ ?_; clear hK K
 refine Fact.nil ?_
 refine Fact.q hf (by simp only [Fact.G]) rfl fun fr1 hf1 hT => ?_
 have hKp := hT 4
 simp only [Fact.G, Nat.reduceEqDiff, Nat.reduceLT, hf.size, reduceIte] at hKp
 clear hT hf s1 s2 s4 b5 b6 b7 b8
 have s4 := hKp; clear hKp
 have hf := hf1; clear hf1
 refine Fact.nx (hK2 _ _ ?_)
 refine wp_ret ?_
 exact Fact.ret1 rfl hf s4 ⟨rfl, (Below.refl _ _).alloc (Nat.le_refl _) _⟩
set_option maxHeartbeats 4000000 in
set_option maxRecDepth 100000 in
theorem chk52e (s : ByteArray) (h1 : s.toList.isEmpty = true) (w : World) : Calls Tryd.prog 52 #[.string s] w fun e w1 => e = .returned (.bool (okW s)) ∧ w = w1 := by
 refine calls_of_wp Tryd.func52 rfl ?_
 refine Fact.enter (n := 10) (by kernel_rfl) (fun fr hf hT => ?_)
 have s0 := hT 0 _ rfl
 clear hT
 have q1 := h1
 refine wp_seq_k (fun K1 hK1 => ?_)
 refine Fact.region ?_
 refine Fact.p rfl fun K hK => ?_
 go_simp
 refine hK.out _ _ ?_; clear hK K
 refine Fact.nil ?_
 refine Fact.q hf (by simp only [Fact.G]) rfl fun fr1 hf1 hT => ?_
 have hKp : _ ∧ _ := ⟨hT 0, hT 2⟩
 simp only [Fact.G, Nat.reduceEqDiff, Nat.reduceLT, hf.size, reduceIte, s0] at hKp
 clear hT hf s0
 obtain ⟨s0, s2⟩ := hKp
 have hf := hf1; clear hf1
 refine Fact.nx (hK1 _ _ ?_)
 refine wp_seq_k (fun K2 hK2 => ?_)
 refine Fact.region ?_
 have b3 := hf.l 3 rfl
 have b4 := hf.l 4 rfl
 have b5 := hf.l 5 rfl
 have b6 := hf.l 6 rfl
 have b7 := hf.l 7 rfl
 have b8 := hf.l 8 rfl
 have b9 := hf.l 9 rfl
 refine Fact.p rfl fun K hK => ?_
 go_simp
 refine hK.out _ _ ?_; clear hK K
 refine Fact.p rfl fun K hK => ?_
 go_simp
 refine hK.out _ _ ?_; clear hK K
 refine Fact.p rfl fun K hK => ?_
 go_simp
 refine hK.out _ _ ?_; clear hK K
 refine Fact.op_skip (g := 2) (d := 5) (b := true) rfl rfl rfl ?_ ?_
 · (
 simp only [Fact.G, Nat.reduceEqDiff, Nat.reduceLT, reduceIte, hf.size, Bool.not_true, Bool.not_false, q1, Bool.not_true, Bool.not_false])
 refine Fact.op_skip (g := 2) (d := 5) (b := true) rfl rfl rfl ?_ ?_
 · (
 simp only [Fact.G, Nat.reduceEqDiff, Nat.reduceLT, reduceIte, hf.size, Bool.not_true, Bool.not_false, q1, Bool.not_true, Bool.not_false])
 refine Fact.op_skip (g := 2) (d := 5) (b := true) rfl rfl rfl ?_ ?_
 · (
 simp only [Fact.G, Nat.reduceEqDiff, Nat.reduceLT, reduceIte, hf.size, Bool.not_true, Bool.not_false, q1, Bool.not_true, Bool.not_false])
 refine Fact.p rfl fun K hK => ?_
 go_simp
 refine hK.out _ _ ?_; clear hK K
 refine Fact.p rfl fun K hK => ?_
 go_simp
 refine hK.out _ _ ?_; clear hK K
 refine Fact.nil ?_
 refine Fact.q hf (by simp only [Fact.G]) rfl fun fr1 hf1 hT => ?_
 have hKp := hT 2
 simp only [Fact.G, Nat.reduceEqDiff, Nat.reduceLT, hf.size, reduceIte] at hKp
 clear hT hf s0 s2 b3 b4 b5 b6 b7 b8 b9
 have s2 := hKp; clear hKp
 have hf := hf1; clear hf1
 refine Fact.nx (hK2 _ _ ?_)
 refine wp_ret ?_
 exact Fact.ret1 rfl hf s2 ⟨by simp [okW, h1], rfl⟩
set_option maxHeartbeats 4000000 in
set_option maxRecDepth 100000 in
theorem chk52n (s : ByteArray) (h1 : s.toList.isEmpty = false) (w : World) : Calls Tryd.prog 52 #[.string s] w fun e w1 => e = .returned (.bool (okW s)) ∧ w = w1 := by
 refine calls_of_wp Tryd.func52 rfl ?_
 refine Fact.enter (n := 10) (by kernel_rfl) (fun fr hf hT => ?_)
 have s0 := hT 0 _ rfl
 clear hT
 have q1 := h1
 refine wp_seq_k (fun K1 hK1 => ?_)
 refine Fact.region ?_
 refine Fact.p rfl fun K hK => ?_
 go_simp
 refine hK.out _ _ ?_; clear hK K
 refine Fact.nil ?_
 refine Fact.q hf (by simp only [Fact.G]) rfl fun fr1 hf1 hT => ?_
 have hKp : _ ∧ _ := ⟨hT 0, hT 2⟩
 simp only [Fact.G, Nat.reduceEqDiff, Nat.reduceLT, hf.size, reduceIte, s0] at hKp
 clear hT hf s0
 obtain ⟨s0, s2⟩ := hKp
 have hf := hf1; clear hf1
 refine Fact.nx (hK1 _ _ ?_)
 refine wp_seq_k (fun K2 hK2 => ?_)
 refine Fact.region ?_
 have b3 := hf.l 3 rfl
 have b4 := hf.l 4 rfl
 have b5 := hf.l 5 rfl
 have b6 := hf.l 6 rfl
 have b7 := hf.l 7 rfl
 have b8 := hf.l 8 rfl
 have b9 := hf.l 9 rfl
 refine Fact.p rfl fun K hK => ?_
 go_simp
 refine hK.out _ _ ?_; clear hK K
 refine Fact.p rfl fun K hK => ?_
 go_simp
 refine hK.out _ _ ?_; clear hK K
 refine Fact.p rfl fun K hK => ?_
 go_simp
 refine hK.out _ _ ?_; clear hK K
 refine Fact.op_guard (g := 2) (d := 5) (b := true) rfl rfl rfl ?_ (fun K hK => ?_)
 · (
 simp only [Fact.G, Nat.reduceEqDiff, Nat.reduceLT, reduceIte, hf.size, q1, Bool.not_true, Bool.not_false])
 go_simp
 refine hK.out _ _ ?_; clear hK K
 refine Fact.op_guard (g := 2) (d := 5) (b := true) rfl rfl rfl ?_ (fun K hK => ?_)
 · (
 simp only [Fact.G, Nat.reduceEqDiff, Nat.reduceLT, reduceIte, hf.size, q1, Bool.not_true, Bool.not_false])
 go_simp
 refine hK.out _ _ ?_; clear hK K
 refine Fact.op_guard (g := 2) (d := 5) (b := true) rfl rfl rfl ?_ (fun K hK => ?_)
 · (
 simp only [Fact.G, Nat.reduceEqDiff, Nat.reduceLT, reduceIte, hf.size, q1, Bool.not_true, Bool.not_false])
 go_simp
 refine hK.out _ _ ?_; clear hK K
 refine Fact.p rfl fun K hK => ?_
 go_simp
 refine hK.out _ _ ?_; clear hK K
 refine Fact.p rfl fun K hK => ?_
 go_simp
 refine hK.out _ _ ?_; clear hK K
 refine Fact.nil ?_
 refine Fact.q hf (by simp only [Fact.G]) rfl fun fr1 hf1 hT => ?_
 have hKp := hT 2
 simp only [Fact.G, Nat.reduceEqDiff, Nat.reduceLT, hf.size, reduceIte] at hKp
 clear hT hf s0 s2 b3 b4 b5 b6 b7 b8 b9
 have s2 := hKp; clear hKp
 have hf := hf1; clear hf1
 refine Fact.nx (hK2 _ _ ?_)
 refine wp_ret ?_
 exact Fact.ret1 rfl hf s2 ⟨by simp [okW, h1]; try omega, rfl⟩
theorem chk52 (s : ByteArray) (w : World) : Calls Tryd.prog 52 #[.string s] w fun e w1 => e = .returned (.bool (okW s)) ∧ w = w1 := by
  cases h : s.toList.isEmpty with
  | true => exact chk52e s h w
  | false => exact chk52n s h w

end Dw
end Go.Proofs.YtgjfhedgdbbinaaDoor
