/- Dawg: words in order, words as they may be. -/
import Derived.Test.YtdkbgbdgmihlmaaGreatDoorPBase
import Derived.Test.YtdkbgbdgmihlmaaGreatDoorDLawP
import Derived.Test.YtdkbgbdgmihlmaaGreatDoorTools
import Derived.WalkSmall
namespace Go.Proofs.YtdkbgbdgmihlmaaGreatDoor
open Go.RowKit
set_option linter.unusedSimpArgs false
set_option linter.unusedVariables false
set_option linter.unnecessarySimpa false
namespace Dw

theorem less_list : ∀ (a b : List UInt8), Op.bytesLess a b = lexlt (a.map UInt8.toNat) (b.map UInt8.toNat)
  | a, [] => by cases a <;> simp [Op.bytesLess, lexlt]
  | [], b :: l => by simp [Op.bytesLess, lexlt]
  | a :: x, b :: y => by
    simp only [Op.bytesLess, List.map_cons, lexlt]
    rw [less_list x y]
    congr 1
    · congr 1
      by_cases h : a = b
      · subst h; simp
      · have : a.toNat ≠ b.toNat := fun e => h (UInt8.toNat_inj.1 e)
        simp [h, this]
theorem less_eq (a b : ByteArray) : Op.bytesLess a.toList b.toList = lexlt (wl a) (wl b) := by
  rw [ByteArray.toList_eq, ByteArray.toList_eq, less_list]
  rfl
/-- a word as it may be -/
def okW (s : ByteArray) : Bool := !s.toList.isEmpty && decide (s.size ≤ 255)
set_option maxHeartbeats 4000000 in
set_option maxRecDepth 100000 in
theorem nan61 (s : ByteArray) (w : World) : Calls Tryz.prog 78 #[.string s] w fun e w1 => e = .returned (.bool false) ∧ w = w1 := by
 refine calls_of_wp Tryz.func78 rfl ?_
 refine Fact.en 6 fun fr hf hT => ?_
 have s0 := hT 0 _ rfl
 clear hT
 refine Fact.sq fun K1 hK1 => ?_
 refine rg ?_
 refine fp fun K Z => ?_
 go_simp
 apply Z.out; clear Z K
 refine Fact.z hf fun fr1 hf1 hT => ?_
 have hKp := hT 0
 simp (decide := true) only [Fact.G, reduceIte, s0] at hKp
 replace hf := hf1; clear hT hf1 s0
 have s0 := hKp; clear hKp
 refine nx (hK1 _ _ ?_)
 refine Fact.sq fun K2 hK2 => ?_
 refine rg ?_
 have b3 := hf.b 3
 have b4 := hf.b 4
 have b5 := hf.b 5
 iterate 4 (refine fp fun K Z => ?_; go_simp; apply Z.out; clear Z K)
 refine Fact.z hf fun fr1 hf1 hT => ?_
 have hKp := hT 2
 simp (decide := true) only [Fact.G, hf.size, reduceIte] at hKp
 replace hf := hf1; clear hT hf1 s0 b3 b4 b5
 have s2 := hKp; clear hKp
 refine nx (hK2 _ _ ?_)
 refine wp_ret ?_
 exact Fact.ret1 rfl hf s2 ⟨rfl, rfl⟩
set_option maxHeartbeats 4000000 in
set_option maxRecDepth 100000 in
theorem cmp54lt (a b : ByteArray) (h1 : Op.bytesLess a.toList b.toList = true) (w : World) : Calls Tryz.prog 60 #[.string a, .string b] w fun e w1 => e = .returned (.int .i64 (-1)) ∧ w = w1 := by
 refine calls_of_wp Tryz.func60 rfl ?_
 refine Fact.en 20 fun fr hf hT => ?_
 have s0 := hT 0 _ rfl
 have s1 := hT 1 _ rfl
 clear hT
 have r1 := h1
 have r2 := trivial
 refine Fact.sq fun K1 hK1 => ?_
 refine rg ?_
 refine fp fun K Z => ?_
 go_simp
 apply Z.out; clear Z K
 refine Fact.z hf fun fr1 hf1 hT => ?_
 have hKp : _ ∧ _ := ⟨hT 0, hT 1⟩
 simp (decide := true) only [Fact.G, reduceIte, s0, s1] at hKp
 replace hf := hf1; clear hT hf1 s0 s1
 obtain ⟨s0, s1⟩ := hKp
 refine nx (hK1 _ _ ?_)
 refine Fact.sq fun K2 hK2 => ?_
 refine rg ?_
 have b7 := hf.b 7
 have b8 := hf.b 8
 refine fp fun K Z => ?_
 go_simp
 apply Z.out; clear Z K
 refine fp fun K Z => ?_
 go_simp
 go_at_call 78; refine (nan61 a w).mono ?_; rintro e w1 ⟨rfl, rfl⟩
 try dsimp only
 apply Z.out; clear Z K
 refine fp fun K Z => ?_
 go_simp
 apply Z.out; clear Z K
 refine Fact.z hf fun fr1 hf1 hT => ?_
 have hKp : _ ∧ _ ∧ _ := ⟨hT 0, hT 1, hT 5⟩
 simp (decide := true) only [Fact.G, hf.size, reduceIte, s0, s1] at hKp
 replace hf := hf1; clear hT hf1 s0 s1 b7 b8
 obtain ⟨s0, s1, s5⟩ := hKp
 refine nx (hK2 _ _ ?_)
 refine Fact.sq fun K3 hK3 => ?_
 refine rg ?_
 have b9 := hf.b 9
 have b10 := hf.b 10
 refine fp fun K Z => ?_
 go_simp
 apply Z.out; clear Z K
 refine fp fun K Z => ?_
 go_simp
 go_at_call 78; refine (nan61 b w).mono ?_; rintro e w2 ⟨rfl, rfl⟩
 try dsimp only
 apply Z.out; clear Z K
 refine fp fun K Z => ?_
 go_simp
 apply Z.out; clear Z K
 refine Fact.z hf fun fr1 hf1 hT => ?_
 have hKp : _ ∧ _ ∧ _ ∧ _ := ⟨hT 0, hT 1, hT 5, hT 6⟩
 simp (decide := true) only [Fact.G, hf.size, reduceIte, s0, s1, s5] at hKp
 replace hf := hf1; clear hT hf1 s0 s1 s5 b9 b10
 obtain ⟨s0, s1, s5, s6⟩ := hKp
 refine nx (hK3 _ _ ?_)
 refine Fact.sq fun K4 hK4 => ?_
 refine Fact.sq fun K5 hK5 => ?_
 refine rg ?_
 refine fp fun K Z => ?_
 go_simp
 apply Z.out; clear Z K
 refine Fact.z hf fun fr1 hf1 hT => ?_
 have hKp : _ ∧ _ ∧ _ ∧ _ := ⟨hT 0, hT 1, hT 6, hT 11⟩
 simp (decide := true) only [Fact.G, hf.size, reduceIte, s0, s1, s6] at hKp
 replace hf := hf1; clear hT hf1 s0 s1 s5 s6
 obtain ⟨s0, s1, s6, s11⟩ := hKp
 refine nx (hK5 _ _ ?_)
 refine Fact.cond_f s11 ?_
 refine wp_skip ?_
 refine nx (hK4 _ _ ?_)
 refine Fact.sq fun K6 hK6 => ?_
 refine Fact.sq fun K7 hK7 => ?_
 refine rg ?_
 refine fp fun K Z => ?_
 go_simp
 apply Z.out; clear Z K
 refine Fact.z hf fun fr1 hf1 hT => ?_
 have hKp : _ ∧ _ ∧ _ := ⟨hT 0, hT 1, hT 13⟩
 simp (decide := true) only [Fact.G, hf.size, reduceIte, s0, s1] at hKp
 replace hf := hf1; clear hT hf1 s0 s1 s6 s11
 obtain ⟨s0, s1, s13⟩ := hKp
 refine nx (hK7 _ _ ?_)
 refine Fact.cond_f s13 ?_
 refine wp_skip ?_
 refine nx (hK6 _ _ ?_)
 refine Fact.sq fun K8 hK8 => ?_
 refine Fact.sq fun K9 hK9 => ?_
 refine rg ?_
 have b14 := hf.b 14
 have b15 := hf.b 15
 iterate 3 (refine fp fun K Z => ?_; go_simp; apply Z.out; clear Z K)
 refine Fact.z hf fun fr1 hf1 hT => ?_
 have hKp : _ ∧ _ ∧ _ := ⟨hT 0, hT 1, hT 16⟩
 simp (decide := true) only [Fact.G, hf.size, reduceIte, s0, s1] at hKp
 replace hf := hf1; clear hT hf1 s0 s1 s13 b14 b15
 obtain ⟨s0, s1, s16⟩ := hKp
 refine nx (hK9 _ _ ?_)
 refine Fact.cond_t s16 ?_
 refine Fact.sq fun K10 hK10 => ?_
 refine rg ?_
 refine fp fun K Z => ?_
 go_simp
 apply Z.out; clear Z K
 refine Fact.z hf fun fr1 hf1 hT => ?_
 have hKp := hT 4
 simp (decide := true) only [Fact.G, hf.size, reduceIte] at hKp
 replace hf := hf1; clear hT hf1 s0 s1 s16
 have s4 := hKp; clear hKp
 refine nx (hK10 _ _ ?_)
 refine wp_ret ?_
 refine Fact.then_ret ?_
 exact Fact.ret1 rfl hf s4 ⟨rfl, rfl⟩
set_option maxHeartbeats 4000000 in
set_option maxRecDepth 100000 in
theorem cmp54gt (a b : ByteArray) (h1 : Op.bytesLess a.toList b.toList = false) (h2 : (a.toList == b.toList) = false) (w : World) : Calls Tryz.prog 60 #[.string a, .string b] w fun e w1 => e = .returned (.int .i64 (1)) ∧ w = w1 := by
 refine calls_of_wp Tryz.func60 rfl ?_
 refine Fact.en 20 fun fr hf hT => ?_
 have s0 := hT 0 _ rfl
 have s1 := hT 1 _ rfl
 clear hT
 have r1 := h1
 have r2 := h2
 refine Fact.sq fun K1 hK1 => ?_
 refine rg ?_
 refine fp fun K Z => ?_
 go_simp
 apply Z.out; clear Z K
 refine Fact.z hf fun fr1 hf1 hT => ?_
 have hKp : _ ∧ _ := ⟨hT 0, hT 1⟩
 simp (decide := true) only [Fact.G, reduceIte, s0, s1] at hKp
 replace hf := hf1; clear hT hf1 s0 s1
 obtain ⟨s0, s1⟩ := hKp
 refine nx (hK1 _ _ ?_)
 refine Fact.sq fun K2 hK2 => ?_
 refine rg ?_
 have b7 := hf.b 7
 have b8 := hf.b 8
 refine fp fun K Z => ?_
 go_simp
 apply Z.out; clear Z K
 refine fp fun K Z => ?_
 go_simp
 go_at_call 78; refine (nan61 a w).mono ?_; rintro e w1 ⟨rfl, rfl⟩
 try dsimp only
 apply Z.out; clear Z K
 refine fp fun K Z => ?_
 go_simp
 apply Z.out; clear Z K
 refine Fact.z hf fun fr1 hf1 hT => ?_
 have hKp : _ ∧ _ ∧ _ := ⟨hT 0, hT 1, hT 5⟩
 simp (decide := true) only [Fact.G, hf.size, reduceIte, s0, s1] at hKp
 replace hf := hf1; clear hT hf1 s0 s1 b7 b8
 obtain ⟨s0, s1, s5⟩ := hKp
 refine nx (hK2 _ _ ?_)
 refine Fact.sq fun K3 hK3 => ?_
 refine rg ?_
 have b9 := hf.b 9
 have b10 := hf.b 10
 refine fp fun K Z => ?_
 go_simp
 apply Z.out; clear Z K
 refine fp fun K Z => ?_
 go_simp
 go_at_call 78; refine (nan61 b w).mono ?_; rintro e w2 ⟨rfl, rfl⟩
 try dsimp only
 apply Z.out; clear Z K
 refine fp fun K Z => ?_
 go_simp
 apply Z.out; clear Z K
 refine Fact.z hf fun fr1 hf1 hT => ?_
 have hKp : _ ∧ _ ∧ _ ∧ _ := ⟨hT 0, hT 1, hT 5, hT 6⟩
 simp (decide := true) only [Fact.G, hf.size, reduceIte, s0, s1, s5] at hKp
 replace hf := hf1; clear hT hf1 s0 s1 s5 b9 b10
 obtain ⟨s0, s1, s5, s6⟩ := hKp
 refine nx (hK3 _ _ ?_)
 refine Fact.sq fun K4 hK4 => ?_
 refine Fact.sq fun K5 hK5 => ?_
 refine rg ?_
 refine fp fun K Z => ?_
 go_simp
 apply Z.out; clear Z K
 refine Fact.z hf fun fr1 hf1 hT => ?_
 have hKp : _ ∧ _ ∧ _ ∧ _ := ⟨hT 0, hT 1, hT 6, hT 11⟩
 simp (decide := true) only [Fact.G, hf.size, reduceIte, s0, s1, s6] at hKp
 replace hf := hf1; clear hT hf1 s0 s1 s5 s6
 obtain ⟨s0, s1, s6, s11⟩ := hKp
 refine nx (hK5 _ _ ?_)
 refine Fact.cond_f s11 ?_
 refine wp_skip ?_
 refine nx (hK4 _ _ ?_)
 refine Fact.sq fun K6 hK6 => ?_
 refine Fact.sq fun K7 hK7 => ?_
 refine rg ?_
 refine fp fun K Z => ?_
 go_simp
 apply Z.out; clear Z K
 refine Fact.z hf fun fr1 hf1 hT => ?_
 have hKp : _ ∧ _ ∧ _ := ⟨hT 0, hT 1, hT 13⟩
 simp (decide := true) only [Fact.G, hf.size, reduceIte, s0, s1] at hKp
 replace hf := hf1; clear hT hf1 s0 s1 s6 s11
 obtain ⟨s0, s1, s13⟩ := hKp
 refine nx (hK7 _ _ ?_)
 refine Fact.cond_f s13 ?_
 refine wp_skip ?_
 refine nx (hK6 _ _ ?_)
 refine Fact.sq fun K8 hK8 => ?_
 refine Fact.sq fun K9 hK9 => ?_
 refine rg ?_
 have b14 := hf.b 14
 have b15 := hf.b 15
 iterate 3 (refine fp fun K Z => ?_; go_simp; apply Z.out; clear Z K)
 refine Fact.z hf fun fr1 hf1 hT => ?_
 have hKp : _ ∧ _ ∧ _ := ⟨hT 0, hT 1, hT 16⟩
 simp (decide := true) only [Fact.G, hf.size, reduceIte, s0, s1] at hKp
 replace hf := hf1; clear hT hf1 s0 s1 s13 b14 b15
 obtain ⟨s0, s1, s16⟩ := hKp
 refine nx (hK9 _ _ ?_)
 refine Fact.cond_f s16 ?_
 refine wp_skip ?_
 refine nx (hK8 _ _ ?_)
 refine Fact.sq fun K10 hK10 => ?_
 refine Fact.sq fun K11 hK11 => ?_
 refine rg ?_
 have b17 := hf.b 17
 have b18 := hf.b 18
 iterate 3 (refine fp fun K Z => ?_; go_simp; apply Z.out; clear Z K)
 refine Fact.z hf fun fr1 hf1 hT => ?_
 have hKp := hT 19
 simp (decide := true) only [Fact.G, hf.size, reduceIte] at hKp
 replace hf := hf1; clear hT hf1 s0 s1 s16 b17 b18
 have s19 := hKp; clear hKp
 refine nx (hK11 _ _ ?_)
 rw [r1, r2] at s19
 simp only [Bool.or_self, Bool.false_or, Bool.not_false, Bool.not_true] at s19
 refine Fact.cond_t s19 ?_
 refine Fact.sq fun K12 hK12 => ?_
 refine rg ?_
 refine fp fun K Z => ?_
 go_simp
 apply Z.out; clear Z K
 refine Fact.z hf fun fr1 hf1 hT => ?_
 have hKp := hT 4
 simp (decide := true) only [Fact.G, hf.size, reduceIte] at hKp
 replace hf := hf1; clear hT hf1 s19
 have s4 := hKp; clear hKp
 refine nx (hK12 _ _ ?_)
 refine wp_ret ?_
 refine Fact.then_ret ?_
 exact Fact.ret1 rfl hf s4 ⟨rfl, rfl⟩
set_option maxHeartbeats 4000000 in
set_option maxRecDepth 100000 in
theorem cmp54eq (a b : ByteArray) (h1 : Op.bytesLess a.toList b.toList = false) (h2 : (a.toList == b.toList) = true) (w : World) : Calls Tryz.prog 60 #[.string a, .string b] w fun e w1 => e = .returned (.int .i64 (0)) ∧ w = w1 := by
 refine calls_of_wp Tryz.func60 rfl ?_
 refine Fact.en 20 fun fr hf hT => ?_
 have s0 := hT 0 _ rfl
 have s1 := hT 1 _ rfl
 clear hT
 have r1 := h1
 have r2 := h2
 refine Fact.sq fun K1 hK1 => ?_
 refine rg ?_
 refine fp fun K Z => ?_
 go_simp
 apply Z.out; clear Z K
 refine Fact.z hf fun fr1 hf1 hT => ?_
 have hKp : _ ∧ _ := ⟨hT 0, hT 1⟩
 simp (decide := true) only [Fact.G, reduceIte, s0, s1] at hKp
 replace hf := hf1; clear hT hf1 s0 s1
 obtain ⟨s0, s1⟩ := hKp
 refine nx (hK1 _ _ ?_)
 refine Fact.sq fun K2 hK2 => ?_
 refine rg ?_
 have b7 := hf.b 7
 have b8 := hf.b 8
 refine fp fun K Z => ?_
 go_simp
 apply Z.out; clear Z K
 refine fp fun K Z => ?_
 go_simp
 go_at_call 78; refine (nan61 a w).mono ?_; rintro e w1 ⟨rfl, rfl⟩
 try dsimp only
 apply Z.out; clear Z K
 refine fp fun K Z => ?_
 go_simp
 apply Z.out; clear Z K
 refine Fact.z hf fun fr1 hf1 hT => ?_
 have hKp : _ ∧ _ ∧ _ := ⟨hT 0, hT 1, hT 5⟩
 simp (decide := true) only [Fact.G, hf.size, reduceIte, s0, s1] at hKp
 replace hf := hf1; clear hT hf1 s0 s1 b7 b8
 obtain ⟨s0, s1, s5⟩ := hKp
 refine nx (hK2 _ _ ?_)
 refine Fact.sq fun K3 hK3 => ?_
 refine rg ?_
 have b9 := hf.b 9
 have b10 := hf.b 10
 refine fp fun K Z => ?_
 go_simp
 apply Z.out; clear Z K
 refine fp fun K Z => ?_
 go_simp
 go_at_call 78; refine (nan61 b w).mono ?_; rintro e w2 ⟨rfl, rfl⟩
 try dsimp only
 apply Z.out; clear Z K
 refine fp fun K Z => ?_
 go_simp
 apply Z.out; clear Z K
 refine Fact.z hf fun fr1 hf1 hT => ?_
 have hKp : _ ∧ _ ∧ _ ∧ _ := ⟨hT 0, hT 1, hT 5, hT 6⟩
 simp (decide := true) only [Fact.G, hf.size, reduceIte, s0, s1, s5] at hKp
 replace hf := hf1; clear hT hf1 s0 s1 s5 b9 b10
 obtain ⟨s0, s1, s5, s6⟩ := hKp
 refine nx (hK3 _ _ ?_)
 refine Fact.sq fun K4 hK4 => ?_
 refine Fact.sq fun K5 hK5 => ?_
 refine rg ?_
 refine fp fun K Z => ?_
 go_simp
 apply Z.out; clear Z K
 refine Fact.z hf fun fr1 hf1 hT => ?_
 have hKp : _ ∧ _ ∧ _ ∧ _ := ⟨hT 0, hT 1, hT 6, hT 11⟩
 simp (decide := true) only [Fact.G, hf.size, reduceIte, s0, s1, s6] at hKp
 replace hf := hf1; clear hT hf1 s0 s1 s5 s6
 obtain ⟨s0, s1, s6, s11⟩ := hKp
 refine nx (hK5 _ _ ?_)
 refine Fact.cond_f s11 ?_
 refine wp_skip ?_
 refine nx (hK4 _ _ ?_)
 refine Fact.sq fun K6 hK6 => ?_
 refine Fact.sq fun K7 hK7 => ?_
 refine rg ?_
 refine fp fun K Z => ?_
 go_simp
 apply Z.out; clear Z K
 refine Fact.z hf fun fr1 hf1 hT => ?_
 have hKp : _ ∧ _ ∧ _ := ⟨hT 0, hT 1, hT 13⟩
 simp (decide := true) only [Fact.G, hf.size, reduceIte, s0, s1] at hKp
 replace hf := hf1; clear hT hf1 s0 s1 s6 s11
 obtain ⟨s0, s1, s13⟩ := hKp
 refine nx (hK7 _ _ ?_)
 refine Fact.cond_f s13 ?_
 refine wp_skip ?_
 refine nx (hK6 _ _ ?_)
 refine Fact.sq fun K8 hK8 => ?_
 refine Fact.sq fun K9 hK9 => ?_
 refine rg ?_
 have b14 := hf.b 14
 have b15 := hf.b 15
 iterate 3 (refine fp fun K Z => ?_; go_simp; apply Z.out; clear Z K)
 refine Fact.z hf fun fr1 hf1 hT => ?_
 have hKp : _ ∧ _ ∧ _ := ⟨hT 0, hT 1, hT 16⟩
 simp (decide := true) only [Fact.G, hf.size, reduceIte, s0, s1] at hKp
 replace hf := hf1; clear hT hf1 s0 s1 s13 b14 b15
 obtain ⟨s0, s1, s16⟩ := hKp
 refine nx (hK9 _ _ ?_)
 refine Fact.cond_f s16 ?_
 refine wp_skip ?_
 refine nx (hK8 _ _ ?_)
 refine Fact.sq fun K10 hK10 => ?_
 refine Fact.sq fun K11 hK11 => ?_
 refine rg ?_
 have b17 := hf.b 17
 have b18 := hf.b 18
 iterate 3 (refine fp fun K Z => ?_; go_simp; apply Z.out; clear Z K)
 refine Fact.z hf fun fr1 hf1 hT => ?_
 have hKp := hT 19
 simp (decide := true) only [Fact.G, hf.size, reduceIte] at hKp
 replace hf := hf1; clear hT hf1 s0 s1 s16 b17 b18
 have s19 := hKp; clear hKp
 refine nx (hK11 _ _ ?_)
 rw [r1, r2] at s19
 simp only [Bool.or_self, Bool.false_or, Bool.not_false, Bool.not_true] at s19
 refine Fact.cond_f s19 ?_
 refine wp_skip ?_
 refine nx (hK10 _ _ ?_)
 refine Fact.sq fun K12 hK12 => ?_
 refine rg ?_
 refine fp fun K Z => ?_
 go_simp
 apply Z.out; clear Z K
 refine Fact.z hf fun fr1 hf1 hT => ?_
 have hKp := hT 4
 simp (decide := true) only [Fact.G, hf.size, reduceIte] at hKp
 replace hf := hf1; clear hT hf1 s19
 have s4 := hKp; clear hKp
 refine nx (hK12 _ _ ?_)
 refine wp_ret ?_
 exact Fact.ret1 rfl hf s4 ⟨rfl, rfl⟩
def cmpS (a b : ByteArray) : Int := if lexlt (wl a) (wl b) then -1 else if (a.toList == b.toList) = true then 0 else 1
theorem cmp54 (a b : ByteArray) (w : World) : Calls Tryz.prog 60 #[.string a, .string b] w fun e w1 => e = .returned (.int .i64 (cmpS a b)) ∧ w = w1 := by
  unfold cmpS
  rw [← less_eq]
  cases h1 : Op.bytesLess a.toList b.toList with
  | true => exact cmp54lt a b h1 w
  | false =>
    cases h2 : (a.toList == b.toList) with
    | true => exact cmp54eq a b h1 h2 w
    | false => exact cmp54gt a b h1 h2 w

set_option maxHeartbeats 4000000 in
set_option maxRecDepth 100000 in
theorem by46 (e : Ent) (b : ByteArray) (w : World) : Calls Tryz.prog 42 #[eval e, .string b] w fun e1 w1 => e1 = .returned (.int .i64 (cmpS e.word b)) ∧ Below w.heap.size w w1 := by
 refine calls_of_wp Tryz.func42 rfl ?_
 refine Fact.en 9 fun fr hf hT => ?_
 have s0 := hT 0 _ rfl
 have s1 := hT 1 _ rfl
 clear hT
 simp only [eval] at s0
 refine Fact.sq fun K1 hK1 => ?_
 refine rg ?_
 iterate 2 (refine fp fun K Z => ?_; go_simp; apply Z.out; clear Z K)
 refine Fact.z hf fun fr1 hf1 hT => ?_
 have hKp : _ ∧ _ := ⟨hT 1, hT 2⟩
 simp (decide := true) only [Fact.G, hf.size, reduceIte, s1] at hKp
 replace hf := hf1; clear hT hf1 s0 s1
 obtain ⟨s1, s2⟩ := hKp
 refine nx (hK1 _ _ ?_)
 refine Fact.sq fun K2 hK2 => ?_
 refine rg ?_
 have b5 := hf.b 5
 have b6 := hf.b 6
 have b7 := hf.b 7
 have b8 := hf.b 8
 iterate 3 (refine fp fun K Z => ?_; go_simp; apply Z.out; clear Z K)
 refine fp fun K Z => ?_
 go_simp
 go_at_call 60; refine (cmp54 e.word b (w.alloc (.cells #[.string e.word, .int .u32 e.weight, .bool e.gone] 47))).mono ?_; rintro e w2 ⟨rfl, rfl⟩
 try dsimp only
 apply Z.out; clear Z K
 refine fp fun K Z => ?_
 go_simp
 apply Z.out; clear Z K
 refine Fact.z hf fun fr1 hf1 hT => ?_
 have hKp := hT 4
 simp (decide := true) only [Fact.G, hf.size, reduceIte] at hKp
 replace hf := hf1; clear hT hf1 s1 s2 b5 b6 b7 b8
 have s4 := hKp; clear hKp
 refine nx (hK2 _ _ ?_)
 refine wp_ret ?_
 exact Fact.ret1 rfl hf s4 ⟨rfl, (Below.refl _ _).alloc (Nat.le_refl _) _⟩
set_option maxHeartbeats 4000000 in
set_option maxRecDepth 100000 in
theorem chk52e (s : ByteArray) (h1 : s.toList.isEmpty = true) (w : World) : Calls Tryz.prog 58 #[.string s] w fun e w1 => e = .returned (.bool (okW s)) ∧ w = w1 := by
 refine calls_of_wp Tryz.func58 rfl ?_
 refine Fact.en 10 fun fr hf hT => ?_
 have s0 := hT 0 _ rfl
 clear hT
 have q1 := h1
 refine Fact.sq fun K1 hK1 => ?_
 refine rg ?_
 refine fp fun K Z => ?_
 go_simp
 apply Z.out; clear Z K
 refine Fact.z hf fun fr1 hf1 hT => ?_
 have hKp := hT 0
 simp (decide := true) only [Fact.G, reduceIte, s0] at hKp
 replace hf := hf1; clear hT hf1 s0
 have s0 := hKp; clear hKp
 refine nx (hK1 _ _ ?_)
 refine Fact.sq fun K2 hK2 => ?_
 refine rg ?_
 have b3 := hf.b 3
 have b4 := hf.b 4
 have b5 := hf.b 5
 have b6 := hf.b 6
 have b7 := hf.b 7
 have b8 := hf.b 8
 have b9 := hf.b 9
 iterate 3 (refine fp fun K Z => ?_; go_simp; apply Z.out; clear Z K)
 refine sk 2 5 true ?_ ?_
 · (
 simp (decide := true) only [Fact.G, reduceIte, hf.size, q1, Fact.N])
 refine sk 2 5 true ?_ ?_
 · (
 simp (decide := true) only [Fact.G, reduceIte, hf.size, q1, Fact.N])
 refine sk 2 5 true ?_ ?_
 · (
 simp (decide := true) only [Fact.G, reduceIte, hf.size, q1, Fact.N])
 iterate 2 (refine fp fun K Z => ?_; go_simp; apply Z.out; clear Z K)
 refine Fact.z hf fun fr1 hf1 hT => ?_
 have hKp := hT 2
 simp (decide := true) only [Fact.G, hf.size, reduceIte] at hKp
 replace hf := hf1; clear hT hf1 s0 b3 b4 b5 b6 b7 b8 b9
 have s2 := hKp; clear hKp
 refine nx (hK2 _ _ ?_)
 refine wp_ret ?_
 exact Fact.ret1 rfl hf s2 ⟨by simp [okW, h1], rfl⟩
set_option maxHeartbeats 4000000 in
set_option maxRecDepth 100000 in
theorem chk52n (s : ByteArray) (h1 : s.toList.isEmpty = false) (w : World) : Calls Tryz.prog 58 #[.string s] w fun e w1 => e = .returned (.bool (okW s)) ∧ w = w1 := by
 refine calls_of_wp Tryz.func58 rfl ?_
 refine Fact.en 10 fun fr hf hT => ?_
 have s0 := hT 0 _ rfl
 clear hT
 have q1 := h1
 refine Fact.sq fun K1 hK1 => ?_
 refine rg ?_
 refine fp fun K Z => ?_
 go_simp
 apply Z.out; clear Z K
 refine Fact.z hf fun fr1 hf1 hT => ?_
 have hKp := hT 0
 simp (decide := true) only [Fact.G, reduceIte, s0] at hKp
 replace hf := hf1; clear hT hf1 s0
 have s0 := hKp; clear hKp
 refine nx (hK1 _ _ ?_)
 refine Fact.sq fun K2 hK2 => ?_
 refine rg ?_
 have b3 := hf.b 3
 have b4 := hf.b 4
 have b5 := hf.b 5
 have b6 := hf.b 6
 have b7 := hf.b 7
 have b8 := hf.b 8
 have b9 := hf.b 9
 iterate 3 (refine fp fun K Z => ?_; go_simp; apply Z.out; clear Z K)
 refine og 2 5 true ?_ fun K Z => ?_
 · (
 simp (decide := true) only [Fact.G, reduceIte, hf.size, q1, Fact.N])
 go_simp
 apply Z.out; clear Z K
 refine og 2 5 true ?_ fun K Z => ?_
 · (
 simp (decide := true) only [Fact.G, reduceIte, hf.size, q1, Fact.N])
 go_simp
 apply Z.out; clear Z K
 refine og 2 5 true ?_ fun K Z => ?_
 · (
 simp (decide := true) only [Fact.G, reduceIte, hf.size, q1, Fact.N])
 go_simp
 apply Z.out; clear Z K
 iterate 2 (refine fp fun K Z => ?_; go_simp; apply Z.out; clear Z K)
 refine Fact.z hf fun fr1 hf1 hT => ?_
 have hKp := hT 2
 simp (decide := true) only [Fact.G, hf.size, reduceIte] at hKp
 replace hf := hf1; clear hT hf1 s0 b3 b4 b5 b6 b7 b8 b9
 have s2 := hKp; clear hKp
 refine nx (hK2 _ _ ?_)
 refine wp_ret ?_
 exact Fact.ret1 rfl hf s2 ⟨by simp [okW, h1]; try omega, rfl⟩
theorem chk52 (s : ByteArray) (w : World) : Calls Tryz.prog 58 #[.string s] w fun e w1 => e = .returned (.bool (okW s)) ∧ w = w1 := by
  cases h : s.toList.isEmpty with
  | true => exact chk52e s h w
  | false => exact chk52n s h w

end Dw
end Go.Proofs.YtdkbgbdgmihlmaaGreatDoor

namespace Go.Proofs.YtdkbgbdgmihlmaaGreatDoor
open Go.RowKit
set_option linter.unusedSimpArgs false
set_option linter.unusedVariables false
set_option linter.unnecessarySimpa false
namespace Dw

/-- of words one behind the other: 7 for what is none, 15 for what does not rise -/
def chkL : Option (List Nat) → List Ent → Nat
  | _, [] => 0
  | p, e :: l => if okW e.word then (if (match p with | none => true | some q => lexlt q (wl e.word)) then chkL (some (wl e.word)) l else 15) else 7
def chkN (es : List Ent) : Nat := chkL none es
def prevW (es : List Ent) : Nat → Option (List Nat)
  | 0 => none
  | i + 1 => es[i]?.map fun e => wl e.word
theorem chk_step {es : List Ent} {i : Nat} {e : Ent} (h : es[i]? = some e) : chkL (prevW es i) (es.drop i) = if okW e.word then (if (match prevW es i with | none => true | some q => lexlt q (wl e.word)) then chkL (some (wl e.word)) (es.drop (i + 1)) else 15) else 7 := by
  obtain ⟨h1, h2⟩ := List.getElem?_eq_some_iff.1 h
  rw [List.drop_eq_getElem_cons h1, h2]
  rfl
theorem prev_zero {es : List Ent} {i : Nat} (h : i = 0) : prevW es i = none := by rw [h]; rfl
theorem prev_succ {es : List Ent} {i : Nat} {p : Ent} (h : 0 < i) (hp : es[i - 1]? = some p) : prevW es i = some (wl p.word) := by
  obtain ⟨j, rfl⟩ : ∃ j, i = j + 1 := ⟨i - 1, by omega⟩
  have : es[j]? = some p := hp
  simp [prevW, this]
theorem prevW_succ {es : List Ent} {i : Nat} {e : Ent} (h : es[i]? = some e) : prevW es (i + 1) = some (wl e.word) := by simp [prevW, h]
theorem cmp_ge {a b : ByteArray} (h : decide (0 ≤ cmpS a b) = true) : lexlt (wl a) (wl b) = false := by
  have h := of_decide_eq_true h
  unfold cmpS at h
  cases hl : lexlt (wl a) (wl b) with
  | false => rfl
  | true => rw [hl] at h; simp at h
theorem cmp_lt {a b : ByteArray} (h : decide (0 ≤ cmpS a b) = false) : lexlt (wl a) (wl b) = true := by
  have h := of_decide_eq_false h
  unfold cmpS at h
  cases hl : lexlt (wl a) (wl b) with
  | true => rfl
  | false => rw [hl] at h; simp at h; split at h <;> omega
set_option maxHeartbeats 4000000 in
set_option maxRecDepth 100000 in
theorem all53 (w : World) (s : ByteArray) (b : Nat) (c0 : w.cell? ⟨b, 0, none⟩ = some (.string s)) : Calls Tryz.prog 59 #[.func (.func 58) #[] #[], .slice (some ⟨b, 0, none⟩) 1 1] w fun e w1 => e = .returned (.bool (okW s)) ∧ w = w1 := by
 refine calls_of_wp Tryz.func59 rfl ?_
 refine Fact.en 18 fun fr hf hT => ?_
 have s0 := hT 0 _ rfl
 have s1 := hT 1 _ rfl
 clear hT
 refine Fact.sq fun K1 hK1 => ?_
 refine rg ?_
 refine fp fun K Z => ?_
 go_simp
 apply Z.out; clear Z K
 refine Fact.z hf fun fr1 hf1 hT => ?_
 have hKp : _ ∧ _ := ⟨hT 0, hT 1⟩
 simp (decide := true) only [Fact.G, reduceIte, s0, s1] at hKp
 replace hf := hf1; clear hT hf1 s0 s1
 obtain ⟨s0, s1⟩ := hKp
 refine nx (hK1 _ _ ?_)
 refine Fact.sq fun K2 hK2 => ?_
 refine Fact.sq fun K3 hK3 => ?_
 refine rg ?_
 have b7 := hf.b 7
 iterate 3 (refine fp fun K Z => ?_; go_simp; apply Z.out; clear Z K)
 refine Fact.z hf fun fr1 hf1 hT => ?_
 have hKp : _ ∧ _ ∧ _ ∧ _ := ⟨hT 0, hT 7, hT 8, hT 9⟩
 simp (decide := true) only [Fact.G, hf.size, reduceIte, s0] at hKp
 replace hf := hf1; clear hT hf1 s0 s1 b7
 obtain ⟨s0, s7, s8, s9⟩ := hKp
 refine nx (hK3 _ _ ?_)
 refine wp_block ?_
 refine wp_loop_ghost (fun gk fr wr => ∃ (i : Nat), gk = 1 - i ∧ i ≤ 1 ∧ (0 < i → okW s = true) ∧ Fact.Fr 18 fr ∧ fr.tmps[0]? = some (.func (.func 58) #[] #[]) ∧ fr.tmps[7]? = some (.slice (some ⟨b, 0, none⟩) 1 1) ∧ fr.tmps[8]? = some (.int .i64 1) ∧ fr.tmps[9]? = some (.int .i64 i) ∧ wr = w) (1) ?_ ?_
 · (
 exact ⟨0, rfl, by omega, by omega, hf, s0, s7, s8, s9, rfl⟩)
 · (
 clear hf s0 s7 s8 s9
 rintro gk fr wr ⟨i, hk, hi, hok, hf, s0, s7, s8, s9, hwr⟩
 subst hwr
 have HK := Lib.hid hk; have HO := Lib.hid hok; clear hk hok
 refine Fact.sq fun K4 hK4 => ?_
 refine rg ?_
 refine fp fun K Z => ?_
 go_simp
 apply Z.out; clear Z K
 refine Fact.z hf fun fr1 hf1 hT => ?_
 have hKp : _ ∧ _ ∧ _ ∧ _ ∧ _ := ⟨hT 0, hT 7, hT 8, hT 9, hT 10⟩
 simp (decide := true) only [Fact.G, hf.size, reduceIte, s0, s7, s8, s9] at hKp
 replace hf := hf1; clear hT hf1 s0 s7 s8 s9
 obtain ⟨s0, s7, s8, s9, s10⟩ := hKp
 refine nx (hK4 _ _ ?_)
 refine Fact.sq fun K5 hK5 => ?_
 refine Fact.cond_s s10 (fun hq => ?_) (fun hq => ?_)
 · (
 have hi0 : i = 0 := by have h9 := of_decide_eq_true hq; omega
 subst hi0
 refine wp_skip ?_
 refine nx (hK5 _ _ ?_)
 refine Fact.sq fun K6 hK6 => ?_
 refine wp_block ?_
 refine Fact.sq fun K7 hK7 => ?_
 refine rg ?_
 have b11 := hf.b 11
 have b12 := hf.b 12
 refine fp fun K Z => ?_
 go_simp
 try rw [if_pos (by omega)]
 try simp
 apply Z.out; clear Z K
 iterate 2 (refine fp fun K Z => ?_; go_simp; apply Z.out; clear Z K)
 refine Fact.z hf fun fr1 hf1 hT => ?_
 have hKp : _ ∧ _ ∧ _ ∧ _ ∧ _ := ⟨hT 0, hT 6, hT 7, hT 8, hT 9⟩
 simp (decide := true) only [Fact.G, hf.size, reduceIte, s0, s7, s8, s9] at hKp
 replace hf := hf1; clear hT hf1 s0 s7 s8 s9 s10 b11 b12
 obtain ⟨s0, s6, s7, s8, s9⟩ := hKp
 refine nx (hK7 _ _ ?_)
 refine Fact.sq fun K8 hK8 => ?_
 refine rg ?_
 have b13 := hf.b 13
 have b14 := hf.b 14
 have b15 := hf.b 15
 iterate 2 (refine fp fun K Z => ?_; go_simp; apply Z.out; clear Z K)
 refine fp fun K Z => ?_
 go_simp
 go_at_call 58; refine (chk52 s wr).mono ?_; rintro e w2 ⟨rfl, rfl⟩
 try dsimp only
 apply Z.out; clear Z K
 refine fp fun K Z => ?_
 go_simp
 apply Z.out; clear Z K
 refine Fact.z hf fun fr1 hf1 hT => ?_
 have hKp : _ ∧ _ ∧ _ ∧ _ ∧ _ := ⟨hT 0, hT 7, hT 8, hT 9, hT 16⟩
 simp (decide := true) only [Fact.G, hf.size, reduceIte, s0, s7, s8, s9] at hKp
 replace hf := hf1; clear hT hf1 s0 s6 s7 s8 s9 b13 b14 b15
 obtain ⟨s0, s7, s8, s9, s16⟩ := hKp
 refine nx (hK8 _ _ ?_)
 refine Fact.cond_s s16 (fun hq2 => ?_) (fun hq2 => ?_)
 · (
 refine Fact.sq fun K9 hK9 => ?_
 refine rg ?_
 refine fp fun K Z => ?_
 go_simp
 apply Z.out; clear Z K
 refine Fact.z hf fun fr1 hf1 hT => ?_
 have hKp := hT 4
 simp (decide := true) only [Fact.G, hf.size, reduceIte] at hKp
 replace hf := hf1; clear hT hf1 s0 s7 s8 s9 s16
 have s4 := hKp; clear hKp
 refine nx (hK9 _ _ ?_)
 refine wp_ret ?_
 refine Fact.block_ret ?_
 refine Fact.then_ret ?_
 refine Fact.then_ret ?_
 refine Fact.block_ret ?_
 refine Fact.then_ret ?_
 exact Fact.ret1 rfl hf s4 ⟨by simp at hq2; rw [hq2], rfl⟩)
 · (
 refine wp_skip ?_
 refine Fact.block_normal ?_
 refine nx (hK6 _ _ ?_)
 refine rg ?_
 have b17 := hf.b 17
 refine fp fun K Z => ?_
 go_simp
 try simp (disch := omega) only [Fact.W]
 apply Z.out; clear Z K
 refine fp fun K Z => ?_
 go_simp
 apply Z.out; clear Z K
 refine Fact.z hf fun fr1 hf1 hT => ?_
 have hKp : _ ∧ _ ∧ _ ∧ _ := ⟨hT 0, hT 7, hT 8, hT 9⟩
 simp (decide := true) only [Fact.G, hf.size, reduceIte, s0, s7, s8] at hKp
 replace hf := hf1; clear hT hf1 s0 s7 s8 s9 s16 b17
 obtain ⟨s0, s7, s8, s9⟩ := hKp
 refine Fact.then_normal ?_
 exact ⟨_, by have := HK.out; omega, 1, rfl, by omega, fun _ => by simpa using hq2, hf, s0, s7, s8, by rw [s9]; rfl, rfl⟩))
 · (
 have hi1 : 0 < i := by have h9 := of_decide_eq_false hq; omega
 refine wp_exit ?_
 refine Fact.then_exit ?_
 refine Fact.then_exit ?_
 refine Fact.block_exit ?_
 refine nx (hK2 _ _ ?_)
 refine Fact.sq fun K10 hK10 => ?_
 refine rg ?_
 refine fp fun K Z => ?_
 go_simp
 apply Z.out; clear Z K
 refine Fact.z hf fun fr1 hf1 hT => ?_
 have hKp := hT 4
 simp (decide := true) only [Fact.G, hf.size, reduceIte] at hKp
 replace hf := hf1; clear hT hf1 s0 s7 s8 s9 s10
 have s4 := hKp; clear hKp
 refine nx (hK10 _ _ ?_)
 refine wp_ret ?_
 exact Fact.ret1 rfl hf s4 ⟨by rw [HO.out hi1], rfl⟩))
set_option maxHeartbeats 4000000 in
set_option maxRecDepth 100000 in
theorem wchk45t (w : World) (s : ByteArray) (b : Nat) (c0 : w.cell? ⟨b, 0, none⟩ = some (.string s)) (hh : okW s = true) : Calls Tryz.prog 41 #[.slice (some ⟨b, 0, none⟩) 1 1] w fun e w1 => e = .returned (.int .i64 (if okW s then 0 else 7)) ∧ w = w1 := by
 refine calls_of_wp Tryz.func41 rfl ?_
 refine Fact.en 8 fun fr hf hT => ?_
 have s0 := hT 0 _ rfl
 clear hT
 have HH := Lib.hid hh; clear hh
 refine Fact.sq fun K1 hK1 => ?_
 refine rg ?_
 refine fp fun K Z => ?_
 go_simp
 apply Z.out; clear Z K
 refine Fact.z hf fun fr1 hf1 hT => ?_
 have hKp := hT 0
 simp (decide := true) only [Fact.G, reduceIte, s0] at hKp
 replace hf := hf1; clear hT hf1 s0
 have s0 := hKp; clear hKp
 refine nx (hK1 _ _ ?_)
 refine Fact.sq fun K2 hK2 => ?_
 refine rg ?_
 refine fp fun K Z => ?_
 go_simp
 apply Z.out; clear Z K
 refine Fact.z hf fun fr1 hf1 hT => ?_
 have hKp : _ ∧ _ := ⟨hT 0, hT 3⟩
 simp (decide := true) only [Fact.G, hf.size, reduceIte, s0] at hKp
 replace hf := hf1; clear hT hf1 s0
 obtain ⟨s0, s3⟩ := hKp
 refine nx (hK2 _ _ ?_)
 refine Fact.sq fun K3 hK3 => ?_
 refine Fact.sq fun K4 hK4 => ?_
 refine rg ?_
 have b4 := hf.b 4
 have b5 := hf.b 5
 have b6 := hf.b 6
 iterate 2 (refine fp fun K Z => ?_; go_simp; apply Z.out; clear Z K)
 refine fp fun K Z => ?_
 go_simp
 go_at_call 59; refine (all53 w s b c0).mono ?_; rintro e w2 ⟨rfl, rfl⟩
 rw [HH.out]
 try dsimp only
 apply Z.out; clear Z K
 refine fp fun K Z => ?_
 go_simp
 apply Z.out; clear Z K
 refine Fact.z hf fun fr1 hf1 hT => ?_
 have hKp := hT 7
 simp (decide := true) only [Fact.G, hf.size, reduceIte] at hKp
 replace hf := hf1; clear hT hf1 s0 s3 b4 b5 b6
 have s7 := hKp; clear hKp
 refine nx (hK4 _ _ ?_)
 refine Fact.cond_f s7 ?_
 refine wp_skip ?_
 refine nx (hK3 _ _ ?_)
 refine Fact.sq fun K5 hK5 => ?_
 refine rg ?_
 refine fp fun K Z => ?_
 go_simp
 apply Z.out; clear Z K
 refine Fact.z hf fun fr1 hf1 hT => ?_
 have hKp := hT 2
 simp (decide := true) only [Fact.G, hf.size, reduceIte] at hKp
 replace hf := hf1; clear hT hf1 s7
 have s2 := hKp; clear hKp
 refine nx (hK5 _ _ ?_)
 refine wp_ret ?_
 exact Fact.ret1 rfl hf s2 ⟨by rw [HH.out]; rfl, rfl⟩
set_option maxHeartbeats 4000000 in
set_option maxRecDepth 100000 in
theorem wchk45f (w : World) (s : ByteArray) (b : Nat) (c0 : w.cell? ⟨b, 0, none⟩ = some (.string s)) (hh : okW s = false) : Calls Tryz.prog 41 #[.slice (some ⟨b, 0, none⟩) 1 1] w fun e w1 => e = .returned (.int .i64 (if okW s then 0 else 7)) ∧ w = w1 := by
 refine calls_of_wp Tryz.func41 rfl ?_
 refine Fact.en 8 fun fr hf hT => ?_
 have s0 := hT 0 _ rfl
 clear hT
 have HH := Lib.hid hh; clear hh
 refine Fact.sq fun K1 hK1 => ?_
 refine rg ?_
 refine fp fun K Z => ?_
 go_simp
 apply Z.out; clear Z K
 refine Fact.z hf fun fr1 hf1 hT => ?_
 have hKp := hT 0
 simp (decide := true) only [Fact.G, reduceIte, s0] at hKp
 replace hf := hf1; clear hT hf1 s0
 have s0 := hKp; clear hKp
 refine nx (hK1 _ _ ?_)
 refine Fact.sq fun K2 hK2 => ?_
 refine rg ?_
 refine fp fun K Z => ?_
 go_simp
 apply Z.out; clear Z K
 refine Fact.z hf fun fr1 hf1 hT => ?_
 have hKp : _ ∧ _ := ⟨hT 0, hT 3⟩
 simp (decide := true) only [Fact.G, hf.size, reduceIte, s0] at hKp
 replace hf := hf1; clear hT hf1 s0
 obtain ⟨s0, s3⟩ := hKp
 refine nx (hK2 _ _ ?_)
 refine Fact.sq fun K3 hK3 => ?_
 refine Fact.sq fun K4 hK4 => ?_
 refine rg ?_
 have b4 := hf.b 4
 have b5 := hf.b 5
 have b6 := hf.b 6
 iterate 2 (refine fp fun K Z => ?_; go_simp; apply Z.out; clear Z K)
 refine fp fun K Z => ?_
 go_simp
 go_at_call 59; refine (all53 w s b c0).mono ?_; rintro e w2 ⟨rfl, rfl⟩
 rw [HH.out]
 try dsimp only
 apply Z.out; clear Z K
 refine fp fun K Z => ?_
 go_simp
 apply Z.out; clear Z K
 refine Fact.z hf fun fr1 hf1 hT => ?_
 have hKp := hT 7
 simp (decide := true) only [Fact.G, hf.size, reduceIte] at hKp
 replace hf := hf1; clear hT hf1 s0 s3 b4 b5 b6
 have s7 := hKp; clear hKp
 refine nx (hK4 _ _ ?_)
 refine Fact.cond_t s7 ?_
 refine Fact.sq fun K5 hK5 => ?_
 refine rg ?_
 refine fp fun K Z => ?_
 go_simp
 apply Z.out; clear Z K
 refine Fact.z hf fun fr1 hf1 hT => ?_
 have hKp := hT 2
 simp (decide := true) only [Fact.G, hf.size, reduceIte] at hKp
 replace hf := hf1; clear hT hf1 s7
 have s2 := hKp; clear hKp
 refine nx (hK5 _ _ ?_)
 refine wp_ret ?_
 refine Fact.then_ret ?_
 exact Fact.ret1 rfl hf s2 ⟨by rw [HH.out]; rfl, rfl⟩
theorem wchk45 (w : World) (s : ByteArray) (b : Nat) (c0 : w.cell? ⟨b, 0, none⟩ = some (.string s)) : Calls Tryz.prog 41 #[.slice (some ⟨b, 0, none⟩) 1 1] w fun e w1 => e = .returned (.int .i64 (if okW s then 0 else 7)) ∧ w = w1 := by
  cases h : okW s with
  | true => have := wchk45t w s b c0 h; rw [h] at this; exact this
  | false => have := wchk45f w s b c0 h; rw [h] at this; exact this

set_option maxHeartbeats 4000000 in
set_option maxRecDepth 100000 in
theorem echk27 (w : World) (es : List Ent) (B : Nat) (v : Value) (hB : B ≤ w.heap.size) (hre : RE w B v es) (hlen : es.length ≤ 1000000) : Calls Tryz.prog 21 #[v] w fun e w1 => ∃ n : Int, e = .returned (.tuple #[.int .i64 n, .int .i64 (chkN es : Nat)]) ∧ Below w.heap.size w w1 := by
 refine calls_of_wp Tryz.func21 rfl ?_
 refine Fact.en 37 fun fr hf hT => ?_
 have s0 := hT 0 _ rfl
 clear hT
 have hre0 := hre.any
 obtain ⟨A, cc, rfl, hcc⟩ := hre.form
 clear hre
 refine Fact.sq fun K1 hK1 => ?_
 refine rg ?_
 iterate 2 (refine fp fun K Z => ?_; go_simp; apply Z.out; clear Z K)
 refine Fact.z hf fun fr1 hf1 hT => ?_
 have hKp : _ ∧ _ ∧ _ := ⟨hT 0, hT 2, hT 3⟩
 simp (decide := true) only [Fact.G, hf.size, reduceIte, s0] at hKp
 replace hf := hf1; clear hT hf1 s0
 obtain ⟨s0, s2, s3⟩ := hKp
 refine nx (hK1 _ _ ?_)
 refine wp_scope_straight ?_
 refine Fact.sq fun K2 hK2 => ?_
 refine rg ?_
 refine fp fun K Z => ?_
 go_simp
 apply Z.out; clear Z K
 refine Fact.z hf fun fr1 hf1 hT => ?_
 have hKp : _ ∧ _ ∧ _ := ⟨hT 0, hT 2, hT 3⟩
 simp (decide := true) only [Fact.G, hf.size, reduceIte, s0, s3] at hKp
 replace hf := hf1; clear hT hf1 s0 s2 s3
 obtain ⟨s0, s2, s3⟩ := hKp
 refine nx (hK2 _ _ ?_)
 refine Fact.sq fun K3 hK3 => ?_
 refine wp_label ?_
 refine nx (hK3 _ _ ?_)
 refine Fact.sq fun K4 hK4 => ?_
 refine Fact.sq fun K5 hK5 => ?_
 refine rg ?_
 have b6 := hf.b 6
 iterate 3 (refine fp fun K Z => ?_; go_simp; apply Z.out; clear Z K)
 refine Fact.z hf fun fr1 hf1 hT => ?_
 have hKp : _ ∧ _ ∧ _ ∧ _ ∧ _ ∧ _ := ⟨hT 0, hT 2, hT 3, hT 6, hT 7, hT 8⟩
 simp (decide := true) only [Fact.G, hf.size, reduceIte, s0, s2, s3] at hKp
 replace hf := hf1; clear hT hf1 s0 s2 s3 b6
 obtain ⟨s0, s2, s3, s6, s7, s8⟩ := hKp
 refine nx (hK5 _ _ ?_)
 refine wp_block ?_
 refine wp_loop_ghost (fun gk fr wr => ∃ (i : Nat), gk = es.length - i ∧ i ≤ es.length ∧ Fact.Fr 37 fr ∧ fr.tmps[0]? = some (.slice A es.length cc) ∧ fr.tmps[2]? = some (.int .i64 (-1)) ∧ fr.tmps[3]? = some (.int .i64 0) ∧ fr.tmps[6]? = some (.slice A es.length cc) ∧ fr.tmps[7]? = some (.int .i64 es.length) ∧ fr.tmps[8]? = some (.int .i64 i) ∧ chkN es = chkL (prevW es i) (es.drop i) ∧ Below w.heap.size w wr) (es.length) ?_ ?_
 · (
 exact ⟨0, rfl, Nat.zero_le _, hf, s0, s2, s3, s6, s7, s8, rfl, Below.refl _ _⟩)
 · (
 clear hf s0 s2 s3 s6 s7 s8
 rintro gk fr wr ⟨i, hk, hi, hf, s0, s2, s3, s6, s7, s8, hch, hb⟩
 have HK := Lib.hid hk; have HC := Lib.hid hch; clear hk hch
 refine Fact.sq fun K6 hK6 => ?_
 refine rg ?_
 refine fp fun K Z => ?_
 go_simp
 apply Z.out; clear Z K
 refine Fact.z hf fun fr1 hf1 hT => ?_
 have hKp : _ ∧ _ ∧ _ ∧ _ ∧ _ ∧ _ ∧ _ := ⟨hT 0, hT 2, hT 3, hT 6, hT 7, hT 8, hT 9⟩
 simp (decide := true) only [Fact.G, hf.size, reduceIte, s0, s2, s3, s6, s7, s8] at hKp
 replace hf := hf1; clear hT hf1 s0 s2 s3 s6 s7 s8
 obtain ⟨s0, s2, s3, s6, s7, s8, s9⟩ := hKp
 refine nx (hK6 _ _ ?_)
 refine Fact.sq fun K7 hK7 => ?_
 refine Fact.cond_s s9 (fun hq => ?_) (fun hq => ?_)
 · (
 have hlt : i < es.length := by have h9 := of_decide_eq_true hq; omega
 have HQ := Lib.hid hq; clear hq
 obtain ⟨e, hie⟩ : ∃ e, es[i]? = some e := ⟨_, List.getElem?_eq_getElem hlt⟩
 obtain ⟨b, off, rfl, hbB, hbl, d0, d1, d2⟩ := (hre0.below hb).at_ hie
 have HE := Lib.hid hie; clear hie
 refine wp_skip ?_
 refine nx (hK7 _ _ ?_)
 refine Fact.sq fun K8 hK8 => ?_
 refine wp_block ?_
 refine Fact.sq fun K9 hK9 => ?_
 refine rg ?_
 have b10 := hf.b 10
 have b11 := hf.b 11
 have b12 := hf.b 12
 have b5 := hf.b 5
 refine fp fun K Z => ?_
 go_simp
 apply Z.out; clear Z K
 refine fp fun K Z => ?_
 go_simp
 try rw [if_pos (by omega)]
 apply Z.out; clear Z K
 iterate 4 (refine fp fun K Z => ?_; go_simp; apply Z.out; clear Z K)
 refine Fact.z hf fun fr1 hf1 hT => ?_
 have hKp : _ ∧ _ ∧ _ ∧ _ ∧ _ ∧ _ ∧ _ ∧ _ := ⟨hT 0, hT 2, hT 3, hT 4, hT 5, hT 6, hT 7, hT 8⟩
 simp (decide := true) only [Fact.G, hf.size, reduceIte, s0, s2, s3, s6, s7, s8] at hKp
 replace hf := hf1; clear hT hf1 s0 s2 s3 s6 s7 s8 s9 b10 b11 b12 b5
 obtain ⟨s0, s2, s3, s4, s5, s6, s7, s8⟩ := hKp
 obtain ⟨W0, hW0⟩ : ∃ W0, wr.alloc (.cells #[.string e.word, .int .u32 e.weight, .bool e.gone] 47) = W0 := ⟨_, rfl⟩
 try rw [hW0]
 obtain ⟨hb2, x0, -, -, hp0, -⟩ := box3 hW0
 clear hW0
 clear d0 d1 d2 hbl
 refine nx (hK9 _ _ ?_)
 refine Fact.sq fun K10 hK10 => ?_
 refine wp_block ?_
 refine Fact.sq fun K11 hK11 => ?_
 refine rg ?_
 have b14 := hf.b 14
 have b15 := hf.b 15
 have b16 := hf.b 16
 have b17 := hf.b 17
 have b18 := hf.b 18
 iterate 3 (refine fp fun K Z => ?_; go_simp; apply Z.out; clear Z K)
 refine fp fun K Z => ?_
 go_simp
 go_at_call 41; refine (wchk45 (W0.alloc (.cells #[.string e.word] 9)) e.word W0.heap.size (cell_of_row _ _ 0 _ 9 (0, 0) (heap_alloc_new W0 _))).mono ?_; rintro e w5 ⟨rfl, rfl⟩
 try dsimp only
 apply Z.out; clear Z K
 iterate 2 (refine fp fun K Z => ?_; go_simp; apply Z.out; clear Z K)
 refine Fact.z hf fun fr1 hf1 hT => ?_
 have hKp : _ ∧ _ ∧ _ ∧ _ ∧ _ ∧ _ ∧ _ ∧ _ ∧ _ := ⟨hT 0, hT 2, hT 3, hT 4, hT 5, hT 6, hT 7, hT 8, hT 13⟩
 simp (decide := true) only [Fact.G, hf.size, reduceIte, s0, s2, s3, s4, s5, s6, s7, s8] at hKp
 replace hf := hf1; clear hT hf1 s0 s2 s3 s4 s5 s6 s7 s8 b14 b15 b16 b17 b18
 obtain ⟨s0, s2, s3, s4, s5, s6, s7, s8, s13⟩ := hKp
 have hb5 : Below W0.heap.size W0 (W0.alloc (.cells #[.string e.word] 9)) := (Below.refl _ _).alloc (Nat.le_refl _) _
 obtain ⟨W5, hW5⟩ : ∃ W5, W0.alloc (.cells #[.string e.word] 9) = W5 := ⟨_, rfl⟩
 rw [hW5] at hb5
 try rw [hW5]
 clear hW5
 have x5 := cL hb5 x0
 have hbW := hb.trans ((hb2.trans (hb5.mono hb2.size)).mono hb.size)
 refine nx (hK11 _ _ ?_)
 have hst := chk_step HE.out
 have HST := Lib.hid hst; clear hst
 rcases hok : okW e.word with _ | _
 · (
 have H1 := Lib.hid hok; clear hok
 have hs13 : fr1.tmps[13]? = some (.bool true) := by rw [s13, H1.out]; rfl
 clear s13
 have s13 := hs13; clear hs13
 refine Fact.cond_t s13 ?_
 refine rg ?_
 refine fp fun K Z => ?_
 go_simp
 apply Z.out; clear Z K
 refine Fact.z hf fun fr1 hf1 hT => ?_
 have hKp : _ ∧ _ := ⟨hT 3, hT 4⟩
 simp (decide := true) only [Fact.G, hf.size, reduceIte, s4] at hKp
 replace hf := hf1; clear hT hf1 s0 s2 s3 s4 s5 s6 s7 s8 s13
 obtain ⟨s3, s4⟩ := hKp
 refine Fact.block_normal ?_
 refine nx (hK10 _ _ ?_)
 refine Fact.sq fun K12 hK12 => ?_
 refine rg ?_
 have b33 := hf.b 33
 iterate 2 (refine fp fun K Z => ?_; go_simp; apply Z.out; clear Z K)
 refine Fact.z hf fun fr1 hf1 hT => ?_
 have hKp : _ ∧ _ := ⟨hT 2, hT 3⟩
 simp (decide := true) only [Fact.G, hf.size, reduceIte, s3] at hKp
 replace hf := hf1; clear hT hf1 s3 s4 b33
 obtain ⟨s2, s3⟩ := hKp
 refine nx (hK12 _ _ ?_)
 refine wp_exit ?_
 refine Fact.block_other (by decide) ?_
 refine Fact.then_exit ?_
 refine Fact.then_exit ?_
 refine Fact.block_exit ?_
 refine nx (hK4 _ _ ?_)
 refine Fact.sq fun K13 hK13 => ?_
 refine rg ?_
 have b35 := hf.b 35
 have b36 := hf.b 36
 iterate 4 (refine fp fun K Z => ?_; go_simp; apply Z.out; clear Z K)
 refine Fact.z hf fun fr1 hf1 hT => ?_
 have hKp : _ ∧ _ := ⟨hT 2, hT 3⟩
 simp (decide := true) only [Fact.G, hf.size, reduceIte] at hKp
 replace hf := hf1; clear hT hf1 s2 s3 b35 b36
 obtain ⟨s2, s3⟩ := hKp
 refine nx (hK13 _ _ ?_)
 refine wp_ret ?_
 refine Fact.scope_r ?_
 exact Fact.ret2 rfl hf s2 s3 ⟨i, by rw [HC.out, HST.out, H1.out]; rfl, hbW⟩)
 · (
 rcases Nat.eq_zero_or_pos i with hi0 | hi0
 · (
 have H1 := Lib.hid hok; clear hok
 have hs13 : fr1.tmps[13]? = some (.bool false) := by rw [s13, H1.out]; rfl
 clear s13
 have s13 := hs13; clear hs13
 refine Fact.cond_f s13 ?_
 have HI0 := Lib.hid hi0
 have q1 : decide (0 < i) = false := decide_eq_false (by omega)
 clear hi0
 refine Fact.sq fun K14 hK14 => ?_
 refine Stab.tb 37 fun hok => ?_
 refine Stab.mO 0 s4 hf hok ?_
 apply Stab.tq 1 _ hf hok
 · (
 intro fr1 w1 hh hd hk K Z
 have s20 := Stab.v 0 0 hd hk []
 clear hd
 go_simp
 exact Stab.k Z)
 refine Stab.mN 2 1 0 hf hok [] ?_
 apply Stab.tr 3 _ hf hok
 · (
 intro fr1 w1 hh hd hk K Z
 have s22 := Stab.v 2 0 hd hk []
 refine Stab.sk s22 ?_
 exact Stab.k Z)
 apply Stab.tr 4 _ hf hok
 · (
 intro fr1 w1 hh hd hk K Z
 have s22 := Stab.v 2 1 hd hk []
 refine Stab.sk s22 ?_
 exact Stab.k Z)
 apply Stab.tr 5 _ hf hok
 · (
 intro fr1 w1 hh hd hk K Z
 have s22 := Stab.v 2 2 hd hk []
 refine Stab.sk s22 ?_
 exact Stab.k Z)
 apply Stab.tr 6 _ hf hok
 · (
 intro fr1 w1 hh hd hk K Z
 have s22 := Stab.v 2 3 hd hk []
 refine Stab.sk s22 ?_
 exact Stab.k Z)
 apply Stab.tr 7 _ hf hok
 · (
 intro fr1 w1 hh hd hk K Z
 have s22 := Stab.v 2 4 hd hk []
 refine Stab.sk s22 ?_
 exact Stab.k Z)
 apply Stab.tr 8 _ hf hok
 · (
 intro fr1 w1 hh hd hk K Z
 have s22 := Stab.v 2 5 hd hk []
 refine Stab.sk s22 ?_
 exact Stab.k Z)
 apply Stab.tr 9 _ hf hok
 · (
 intro fr1 w1 hh hd hk K Z
 have s22 := Stab.v 2 6 hd hk []
 refine Stab.sk s22 ?_
 exact Stab.k Z)
 apply Stab.tr 10 _ hf hok
 · (
 intro fr1 w1 hh hd hk K Z
 have s22 := Stab.v 2 7 hd hk []
 refine Stab.sk s22 ?_
 exact Stab.k Z)
 apply Stab.tr 11 _ hf hok
 · (
 intro fr1 w1 hh hd hk K Z
 have s22 := Stab.v 2 8 hd hk []
 refine Stab.sk s22 ?_
 exact Stab.k Z)
 apply Stab.tq 12 _ hf hok
 · (
 intro fr1 w1 hh hd hk K Z
 have s22 := Stab.v 2 9 hd hk []
 have s31 := Stab.v 11 0 hd hk []
 clear hd
 go_simp
 exact Stab.k Z)
 refine Stab.mN 13 12 0 hf hok [] ?_
 refine Stab.tf hf hok fun fr1 w1 hh hg => ?_
 replace s0 := Stab.O hh s0
 replace s2 := Stab.O hh s2
 replace s3 := Stab.O hh s3
 replace s4 := Stab.O hh s4
 replace s6 := Stab.O hh s6
 replace s7 := Stab.O hh s7
 replace s8 := Stab.O hh s8
 have s19 := Stab.f 13 0 hg
 have hf1 := hh.fr hf
 have hx := hh.ext
 clear hg hh hf hok s5 s13
 have hf := hf1; clear hf1
 refine nx (hK14 _ _ ?_)
 refine Fact.cond_f s19 ?_
 have hfin : chkN es = chkL (some (wl e.word)) (es.drop (i + 1)) := by rw [HC.out, HST.out, H1.out, prev_zero HI0.out]; rfl
 have HF := Lib.hid hfin; clear hfin
 have hbz := hbW.trans (hx.mono hbW.size)
 refine wp_exit ?_
 refine Fact.block_other (by decide) ?_
 refine Fact.then_exit ?_
 refine Fact.block_exit ?_
 refine nx (hK8 _ _ ?_)
 refine rg ?_
 have b34 := hf.b 34
 refine fp fun K Z => ?_
 go_simp
 try simp (disch := omega) only [Fact.W]
 apply Z.out; clear Z K
 refine fp fun K Z => ?_
 go_simp
 apply Z.out; clear Z K
 refine Fact.z hf fun fr1 hf1 hT => ?_
 have hKp : _ ∧ _ ∧ _ ∧ _ ∧ _ ∧ _ := ⟨hT 0, hT 2, hT 3, hT 6, hT 7, hT 8⟩
 simp (decide := true) only [Fact.G, hf.size, reduceIte, s0, s2, s3, s6, s7] at hKp
 replace hf := hf1; clear hT hf1 s0 s2 s3 s4 s6 s7 s8 s19 b34
 obtain ⟨s0, s2, s3, s6, s7, s8⟩ := hKp
 refine Fact.then_normal ?_
 exact ⟨_, by have := HK.out; omega, i + 1, rfl, by omega, hf, s0, s2, s3, s6, s7, by rw [s8]; rfl, by rw [HF.out, prevW_succ HE.out], hbz⟩)
 · (
 have H1 := Lib.hid hok; clear hok
 have hs13 : fr1.tmps[13]? = some (.bool false) := by rw [s13, H1.out]; rfl
 clear s13
 have s13 := hs13; clear hs13
 refine Fact.cond_f s13 ?_
 have q1 : decide (0 < i) = true := decide_eq_true hi0
 obtain ⟨p, hip⟩ : ∃ p, es[i - 1]? = some p := ⟨_, List.getElem?_eq_getElem (by omega)⟩
 obtain ⟨b2, off2, he2, hbB2, hbl2, y0, y1, y2⟩ := (hre0.below hbW).at_ hip
 injection he2 with he2
 injection he2 with he2 he3
 subst he2; subst he3
 have HP := Lib.hid hip; clear hip
 have hi1 : (i : Int) - 1 = ((i - 1 : Nat) : Int) := by omega
 refine Fact.sq fun K15 hK15 => ?_
 refine Stab.tb 37 fun hok => ?_
 refine Stab.mO 0 s4 hf hok ?_
 apply Stab.tq 1 _ hf hok
 · (
 intro fr1 w1 hh hd hk K Z
 have s20 := Stab.v 0 0 hd hk []
 clear hd
 go_simp
 exact Stab.k Z)
 refine Stab.mN 2 1 0 hf hok [] ?_
 apply Stab.tr 3 _ hf hok
 · (
 intro fr1 w1 hh hd hk K Z
 have s22 := Stab.v 2 0 hd hk []
 refine Stab.g s22 ?_
 have s0 := Stab.O hh s0
 clear hd
 go_simp
 exact Stab.k Z)
 apply Stab.tr 4 _ hf hok
 · (
 intro fr1 w1 hh hd hk K Z
 have s22 := Stab.v 2 1 hd hk []
 refine Stab.g s22 ?_
 have s4 := Stab.O hh s4
 clear hd
 go_simp
 exact Stab.k Z)
 apply Stab.tr 5 _ hf hok
 · (
 intro fr1 w1 hh hd hk K Z
 have s22 := Stab.v 2 2 hd hk []
 refine Stab.g s22 ?_
 have s24 := Stab.v 4 0 hd hk []
 clear hd
 go_simp
 try simp (disch := omega) only [Fact.W]
 try rw [hi1]
 exact Stab.k Z)
 apply Stab.tr 6 _ hf hok
 · (
 intro fr1 w1 hh hd hk K Z
 have s22 := Stab.v 2 3 hd hk []
 refine Stab.g s22 ?_
 have s23 := Stab.v 3 2 hd hk []
 have s25 := Stab.v 5 0 hd hk []
 clear hd
 go_simp
 try rw [if_pos (by omega)]
 exact Stab.k Z)
 apply Stab.tr 7 _ hf hok
 · (
 intro fr1 w1 hh hd hk K Z
 have s22 := Stab.v 2 4 hd hk []
 refine Stab.g s22 ?_
 have s26 := Stab.v 6 0 hd hk []
 clear hd
 replace x5 := cL hh.ext x5
 replace y0 := cL hh.ext y0
 replace y1 := cL hh.ext y1
 replace y2 := cL hh.ext y2
 go_simp
 exact Stab.k Z)
 apply Stab.tr 8 _ hf hok
 · (
 intro fr1 w1 hh hd hk K Z
 have s22 := Stab.v 2 5 hd hk []
 refine Stab.g s22 ?_
 have s5 := Stab.O hh s5
 clear hd
 go_simp
 exact Stab.k Z)
 apply Stab.tr 9 _ hf hok
 · (
 intro fr1 w1 hh hd hk K Z
 have s22 := Stab.v 2 6 hd hk []
 refine Stab.g s22 ?_
 have s28 := Stab.v 8 0 hd hk []
 clear hd
 replace x5 := cL hh.ext x5
 replace y0 := cL hh.ext y0
 replace y1 := cL hh.ext y1
 replace y2 := cL hh.ext y2
 go_simp
 exact Stab.k Z)
 apply Stab.tr 10 _ hf hok
 · (
 intro fr1 w1 hh hd hk K Z
 have s22 := Stab.v 2 7 hd hk []
 refine Stab.g s22 ?_
 have s27 := Stab.v 7 2 hd hk []
 have s29 := Stab.v 9 0 hd hk []
 clear hd
 replace x5 := cL hh.ext x5
 replace y0 := cL hh.ext y0
 replace y1 := cL hh.ext y1
 replace y2 := cL hh.ext y2
 go_simp
 go_at_call 42; refine (by46 p e.word w1).mono ?_; rintro e w2 ⟨rfl, hb⟩
 exact Z.out _ rfl _ _ hb rfl)
 apply Stab.tr 11 _ hf hok
 · (
 intro fr1 w1 hh hd hk K Z
 have s22 := Stab.v 2 8 hd hk []
 refine Stab.g s22 ?_
 have s30 := Stab.v 10 0 hd hk []
 clear hd
 go_simp
 exact Stab.k Z)
 apply Stab.tq 12 _ hf hok
 · (
 intro fr1 w1 hh hd hk K Z
 have s22 := Stab.v 2 9 hd hk []
 have s31 := Stab.v 11 0 hd hk []
 clear hd
 go_simp
 exact Stab.k Z)
 refine Stab.mN 13 12 0 hf hok [] ?_
 refine Stab.tf hf hok fun fr1 w1 hh hg => ?_
 replace s0 := Stab.O hh s0
 replace s2 := Stab.O hh s2
 replace s3 := Stab.O hh s3
 replace s4 := Stab.O hh s4
 replace s6 := Stab.O hh s6
 replace s7 := Stab.O hh s7
 replace s8 := Stab.O hh s8
 have s19 := Stab.f 13 0 hg
 have hf1 := hh.fr hf
 have hx := hh.ext
 replace x5 := cL hx x5
 replace y0 := cL hx y0
 replace y1 := cL hx y1
 replace y2 := cL hx y2
 clear hg hh hf hok s5 s13
 have hf := hf1; clear hf1
 refine nx (hK15 _ _ ?_)
 refine Fact.cond_s s19 (fun hq2 => ?_) (fun hq2 => ?_)
 · (
 have HQ2 := Lib.hid hq2; clear hq2
 have hbz := hbW.trans (hx.mono hbW.size)
 refine rg ?_
 refine fp fun K Z => ?_
 go_simp
 apply Z.out; clear Z K
 refine Fact.z hf fun fr1 hf1 hT => ?_
 have hKp : _ ∧ _ := ⟨hT 3, hT 4⟩
 simp (decide := true) only [Fact.G, hf.size, reduceIte, s4] at hKp
 replace hf := hf1; clear hT hf1 s0 s2 s3 s4 s6 s7 s8 s19
 obtain ⟨s3, s4⟩ := hKp
 refine Fact.block_normal ?_
 refine nx (hK10 _ _ ?_)
 refine Fact.sq fun K16 hK16 => ?_
 refine rg ?_
 have b33 := hf.b 33
 iterate 2 (refine fp fun K Z => ?_; go_simp; apply Z.out; clear Z K)
 refine Fact.z hf fun fr1 hf1 hT => ?_
 have hKp : _ ∧ _ := ⟨hT 2, hT 3⟩
 simp (decide := true) only [Fact.G, hf.size, reduceIte, s3] at hKp
 replace hf := hf1; clear hT hf1 s3 s4 b33
 obtain ⟨s2, s3⟩ := hKp
 refine nx (hK16 _ _ ?_)
 refine wp_exit ?_
 refine Fact.block_other (by decide) ?_
 refine Fact.then_exit ?_
 refine Fact.then_exit ?_
 refine Fact.block_exit ?_
 refine nx (hK4 _ _ ?_)
 refine Fact.sq fun K17 hK17 => ?_
 refine rg ?_
 have b35 := hf.b 35
 have b36 := hf.b 36
 iterate 4 (refine fp fun K Z => ?_; go_simp; apply Z.out; clear Z K)
 refine Fact.z hf fun fr1 hf1 hT => ?_
 have hKp : _ ∧ _ := ⟨hT 2, hT 3⟩
 simp (decide := true) only [Fact.G, hf.size, reduceIte] at hKp
 replace hf := hf1; clear hT hf1 s2 s3 b35 b36
 obtain ⟨s2, s3⟩ := hKp
 refine nx (hK17 _ _ ?_)
 refine wp_ret ?_
 refine Fact.scope_r ?_
 exact Fact.ret2 rfl hf s2 s3 ⟨i, by rw [HC.out, HST.out, H1.out, prev_succ hi0 HP.out]; simp only [cmp_ge HQ2.out, if_true, Bool.false_eq_true, if_false]; rfl, hbz⟩)
 · (
 have HQ2 := Lib.hid hq2; clear hq2
 have hbz := hbW.trans (hx.mono hbW.size)
 have hfin : chkN es = chkL (some (wl e.word)) (es.drop (i + 1)) := by rw [HC.out, HST.out, H1.out, prev_succ hi0 HP.out]; simp only [cmp_lt HQ2.out, if_true]
 have HF := Lib.hid hfin; clear hfin
 refine wp_exit ?_
 refine Fact.block_other (by decide) ?_
 refine Fact.then_exit ?_
 refine Fact.block_exit ?_
 refine nx (hK8 _ _ ?_)
 refine rg ?_
 have b34 := hf.b 34
 refine fp fun K Z => ?_
 go_simp
 try simp (disch := omega) only [Fact.W]
 apply Z.out; clear Z K
 refine fp fun K Z => ?_
 go_simp
 apply Z.out; clear Z K
 refine Fact.z hf fun fr1 hf1 hT => ?_
 have hKp : _ ∧ _ ∧ _ ∧ _ ∧ _ ∧ _ := ⟨hT 0, hT 2, hT 3, hT 6, hT 7, hT 8⟩
 simp (decide := true) only [Fact.G, hf.size, reduceIte, s0, s2, s3, s6, s7] at hKp
 replace hf := hf1; clear hT hf1 s0 s2 s3 s4 s6 s7 s8 s19 b34
 obtain ⟨s0, s2, s3, s6, s7, s8⟩ := hKp
 refine Fact.then_normal ?_
 exact ⟨_, by have := HK.out; omega, i + 1, rfl, by omega, hf, s0, s2, s3, s6, s7, by rw [s8]; rfl, by rw [HF.out, prevW_succ HE.out], hbz⟩))))
 · (
 have hie : i = es.length := by have h9 := of_decide_eq_false hq; omega
 have HIE := Lib.hid hie; clear hie hq
 refine wp_exit ?_
 refine Fact.then_exit ?_
 refine Fact.then_exit ?_
 refine Fact.block_exit ?_
 refine nx (hK4 _ _ ?_)
 refine Fact.sq fun K18 hK18 => ?_
 refine rg ?_
 have b35 := hf.b 35
 have b36 := hf.b 36
 iterate 4 (refine fp fun K Z => ?_; go_simp; apply Z.out; clear Z K)
 refine Fact.z hf fun fr1 hf1 hT => ?_
 have hKp : _ ∧ _ := ⟨hT 2, hT 3⟩
 simp (decide := true) only [Fact.G, hf.size, reduceIte] at hKp
 replace hf := hf1; clear hT hf1 s0 s2 s3 s6 s7 s8 s9 b35 b36
 obtain ⟨s2, s3⟩ := hKp
 refine nx (hK18 _ _ ?_)
 refine wp_ret ?_
 refine Fact.scope_r ?_
 exact Fact.ret2 rfl hf s2 s3 ⟨-1, by rw [HC.out, List.drop_eq_nil_of_le (by have := HIE.out; omega)]; rfl, hb⟩))
end Dw
end Go.Proofs.YtdkbgbdgmihlmaaGreatDoor
