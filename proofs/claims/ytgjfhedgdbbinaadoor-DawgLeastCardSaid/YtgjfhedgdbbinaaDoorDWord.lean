/- Dawg: words in order, words as they may be. -/
import Derived.Test.YtgjfhedgdbbinaaDoorDVal
import Derived.Test.YtgjfhedgdbbinaaDoorDLaw
import Derived.Test.YtgjfhedgdbbinaaDoorTools
import Derived.WalkSmall
namespace Go.Proofs.YtgjfhedgdbbinaaDoor
open Go.RowKit
set_option linter.unusedSimpArgs false
set_option linter.unusedVariables false
set_option linter.unnecessarySimpa false
namespace Dw

theorem less_list : ∀ (a b : List UInt8), Op.bytesLess a b = lexlt (a.map UInt8.toNat) (b.map UInt8.toNat)
  | a, [] => by cases a <;> simp [Op.bytesLess, lexlt]
  | [], b :: l => by simp [Op.bytesLess, lexlt]
  | a :: x, b :: y => by
    simp only [Op.bytesLess, List.map_cons, lexlt]
    rw [less_list x y]
    congr 1
    · congr 1
      by_cases h : a = b
      · subst h; simp
      · have : a.toNat ≠ b.toNat := fun e => h (UInt8.toNat_inj.1 e)
        simp [h, this]
theorem less_eq (a b : ByteArray) : Op.bytesLess a.toList b.toList = lexlt (wl a) (wl b) := by
  rw [ByteArray.toList_eq, ByteArray.toList_eq, less_list]
  rfl
/-- a word as it may be -/
def okW (s : ByteArray) : Bool := !s.toList.isEmpty && decide (s.size ≤ 255)
set_option maxHeartbeats 4000000 in
set_option maxRecDepth 100000 in
theorem nan61 (s : ByteArray) (w : World) : Calls Tryd.prog 61 #[.string s] w fun e w1 => e = .returned (.bool false) ∧ w = w1 := by
 refine calls_of_wp Tryd.func61 rfl ?_
 refine Fact.en 6 fun fr hf hT => ?_
 have s0 := hT 0 _ rfl
 clear hT
 refine Fact.sq fun K1 hK1 => ?_
 refine rg ?_
 refine fp fun K Z => ?_
 go_simp
 apply Z.out; clear Z K
 refine Fact.z hf fun fr1 hf1 hT => ?_
 have hKp := hT 0
 simp (decide := true) only [Fact.G, reduceIte, s0] at hKp
 replace hf := hf1; clear hT hf1 s0
 have s0 := hKp; clear hKp
 refine nx (hK1 _ _ ?_)
 refine Fact.sq fun K2 hK2 => ?_
 refine rg ?_
 have b3 := hf.b 3
 have b4 := hf.b 4
 have b5 := hf.b 5
 refine fp fun K Z => ?_
 go_simp
 apply Z.out; clear Z K
 refine fp fun K Z => ?_
 go_simp
 apply Z.out; clear Z K
 refine fp fun K Z => ?_
 go_simp
 apply Z.out; clear Z K
 refine fp fun K Z => ?_
 go_simp
 apply Z.out; clear Z K
 refine Fact.z hf fun fr1 hf1 hT => ?_
 have hKp := hT 2
 simp (decide := true) only [Fact.G, hf.size, reduceIte] at hKp
 replace hf := hf1; clear hT hf1 s0 b3 b4 b5
 have s2 := hKp; clear hKp
 refine nx (hK2 _ _ ?_)
 refine wp_ret ?_
 exact Fact.ret1 rfl hf s2 ⟨rfl, rfl⟩
set_option maxHeartbeats 4000000 in
set_option maxRecDepth 100000 in
theorem cmp54lt (a b : ByteArray) (h1 : Op.bytesLess a.toList b.toList = true) (w : World) : Calls Tryd.prog 54 #[.string a, .string b] w fun e w1 => e = .returned (.int .i64 (-1)) ∧ w = w1 := by
 refine calls_of_wp Tryd.func54 rfl ?_
 refine Fact.en 20 fun fr hf hT => ?_
 have s0 := hT 0 _ rfl
 have s1 := hT 1 _ rfl
 clear hT
 have r1 := h1
 have r2 := trivial
 refine Fact.sq fun K1 hK1 => ?_
 refine rg ?_
 refine fp fun K Z => ?_
 go_simp
 apply Z.out; clear Z K
 refine Fact.z hf fun fr1 hf1 hT => ?_
 have hKp : _ ∧ _ := ⟨hT 0, hT 1⟩
 simp (decide := true) only [Fact.G, reduceIte, s0, s1] at hKp
 replace hf := hf1; clear hT hf1 s0 s1
 obtain ⟨s0, s1⟩ := hKp
 refine nx (hK1 _ _ ?_)
 refine Fact.sq fun K2 hK2 => ?_
 refine rg ?_
 have b7 := hf.b 7
 have b8 := hf.b 8
 refine fp fun K Z => ?_
 go_simp
 apply Z.out; clear Z K
 refine fp fun K Z => ?_
 go_simp
 go_at_call 61; refine (nan61 a w).mono ?_; rintro e w1 ⟨rfl, rfl⟩
 try dsimp only
 apply Z.out; clear Z K
 refine fp fun K Z => ?_
 go_simp
 apply Z.out; clear Z K
 refine Fact.z hf fun fr1 hf1 hT => ?_
 have hKp : _ ∧ _ ∧ _ := ⟨hT 0, hT 1, hT 5⟩
 simp (decide := true) only [Fact.G, hf.size, reduceIte, s0, s1] at hKp
 replace hf := hf1; clear hT hf1 s0 s1 b7 b8
 obtain ⟨s0, s1, s5⟩ := hKp
 refine nx (hK2 _ _ ?_)
 refine Fact.sq fun K3 hK3 => ?_
 refine rg ?_
 have b9 := hf.b 9
 have b10 := hf.b 10
 refine fp fun K Z => ?_
 go_simp
 apply Z.out; clear Z K
 refine fp fun K Z => ?_
 go_simp
 go_at_call 61; refine (nan61 b w).mono ?_; rintro e w2 ⟨rfl, rfl⟩
 try dsimp only
 apply Z.out; clear Z K
 refine fp fun K Z => ?_
 go_simp
 apply Z.out; clear Z K
 refine Fact.z hf fun fr1 hf1 hT => ?_
 have hKp : _ ∧ _ ∧ _ ∧ _ := ⟨hT 0, hT 1, hT 5, hT 6⟩
 simp (decide := true) only [Fact.G, hf.size, reduceIte, s0, s1, s5] at hKp
 replace hf := hf1; clear hT hf1 s0 s1 s5 b9 b10
 obtain ⟨s0, s1, s5, s6⟩ := hKp
 refine nx (hK3 _ _ ?_)
 refine Fact.sq fun K4 hK4 => ?_
 refine Fact.sq fun K5 hK5 => ?_
 refine rg ?_
 refine fp fun K Z => ?_
 go_simp
 apply Z.out; clear Z K
 refine Fact.z hf fun fr1 hf1 hT => ?_
 have hKp : _ ∧ _ ∧ _ ∧ _ := ⟨hT 0, hT 1, hT 6, hT 11⟩
 simp (decide := true) only [Fact.G, hf.size, reduceIte, s0, s1, s6] at hKp
 replace hf := hf1; clear hT hf1 s0 s1 s5 s6
 obtain ⟨s0, s1, s6, s11⟩ := hKp
 refine nx (hK5 _ _ ?_)
 refine Fact.cond_f s11 ?_
 refine wp_skip ?_
 refine nx (hK4 _ _ ?_)
 refine Fact.sq fun K6 hK6 => ?_
 refine Fact.sq fun K7 hK7 => ?_
 refine rg ?_
 refine fp fun K Z => ?_
 go_simp
 apply Z.out; clear Z K
 refine Fact.z hf fun fr1 hf1 hT => ?_
 have hKp : _ ∧ _ ∧ _ := ⟨hT 0, hT 1, hT 13⟩
 simp (decide := true) only [Fact.G, hf.size, reduceIte, s0, s1] at hKp
 replace hf := hf1; clear hT hf1 s0 s1 s6 s11
 obtain ⟨s0, s1, s13⟩ := hKp
 refine nx (hK7 _ _ ?_)
 refine Fact.cond_f s13 ?_
 refine wp_skip ?_
 refine nx (hK6 _ _ ?_)
 refine Fact.sq fun K8 hK8 => ?_
 refine Fact.sq fun K9 hK9 => ?_
 refine rg ?_
 have b14 := hf.b 14
 have b15 := hf.b 15
 refine fp fun K Z => ?_
 go_simp
 apply Z.out; clear Z K
 refine fp fun K Z => ?_
 go_simp
 apply Z.out; clear Z K
 refine fp fun K Z => ?_
 go_simp
 apply Z.out; clear Z K
 refine Fact.z hf fun fr1 hf1 hT => ?_
 have hKp : _ ∧ _ ∧ _ := ⟨hT 0, hT 1, hT 16⟩
 simp (decide := true) only [Fact.G, hf.size, reduceIte, s0, s1] at hKp
 replace hf := hf1; clear hT hf1 s0 s1 s13 b14 b15
 obtain ⟨s0, s1, s16⟩ := hKp
 refine nx (hK9 _ _ ?_)
 refine Fact.cond_t s16 ?_
 refine Fact.sq fun K10 hK10 => ?_
 refine rg ?_
 refine fp fun K Z => ?_
 go_simp
 apply Z.out; clear Z K
 refine Fact.z hf fun fr1 hf1 hT => ?_
 have hKp := hT 4
 simp (decide := true) only [Fact.G, hf.size, reduceIte] at hKp
 replace hf := hf1; clear hT hf1 s0 s1 s16
 have s4 := hKp; clear hKp
 refine nx (hK10 _ _ ?_)
 refine wp_ret ?_
 refine Fact.then_ret ?_
 exact Fact.ret1 rfl hf s4 ⟨rfl, rfl⟩
set_option maxHeartbeats 4000000 in
set_option maxRecDepth 100000 in
theorem cmp54gt (a b : ByteArray) (h1 : Op.bytesLess a.toList b.toList = false) (h2 : (a.toList == b.toList) = false) (w : World) : Calls Tryd.prog 54 #[.string a, .string b] w fun e w1 => e = .returned (.int .i64 (1)) ∧ w = w1 := by
 refine calls_of_wp Tryd.func54 rfl ?_
 refine Fact.en 20 fun fr hf hT => ?_
 have s0 := hT 0 _ rfl
 have s1 := hT 1 _ rfl
 clear hT
 have r1 := h1
 have r2 := h2
 refine Fact.sq fun K1 hK1 => ?_
 refine rg ?_
 refine fp fun K Z => ?_
 go_simp
 apply Z.out; clear Z K
 refine Fact.z hf fun fr1 hf1 hT => ?_
 have hKp : _ ∧ _ := ⟨hT 0, hT 1⟩
 simp (decide := true) only [Fact.G, reduceIte, s0, s1] at hKp
 replace hf := hf1; clear hT hf1 s0 s1
 obtain ⟨s0, s1⟩ := hKp
 refine nx (hK1 _ _ ?_)
 refine Fact.sq fun K2 hK2 => ?_
 refine rg ?_
 have b7 := hf.b 7
 have b8 := hf.b 8
 refine fp fun K Z => ?_
 go_simp
 apply Z.out; clear Z K
 refine fp fun K Z => ?_
 go_simp
 go_at_call 61; refine (nan61 a w).mono ?_; rintro e w1 ⟨rfl, rfl⟩
 try dsimp only
 apply Z.out; clear Z K
 refine fp fun K Z => ?_
 go_simp
 apply Z.out; clear Z K
 refine Fact.z hf fun fr1 hf1 hT => ?_
 have hKp : _ ∧ _ ∧ _ := ⟨hT 0, hT 1, hT 5⟩
 simp (decide := true) only [Fact.G, hf.size, reduceIte, s0, s1] at hKp
 replace hf := hf1; clear hT hf1 s0 s1 b7 b8
 obtain ⟨s0, s1, s5⟩ := hKp
 refine nx (hK2 _ _ ?_)
 refine Fact.sq fun K3 hK3 => ?_
 refine rg ?_
 have b9 := hf.b 9
 have b10 := hf.b 10
 refine fp fun K Z => ?_
 go_simp
 apply Z.out; clear Z K
 refine fp fun K Z => ?_
 go_simp
 go_at_call 61; refine (nan61 b w).mono ?_; rintro e w2 ⟨rfl, rfl⟩
 try dsimp only
 apply Z.out; clear Z K
 refine fp fun K Z => ?_
 go_simp
 apply Z.out; clear Z K
 refine Fact.z hf fun fr1 hf1 hT => ?_
 have hKp : _ ∧ _ ∧ _ ∧ _ := ⟨hT 0, hT 1, hT 5, hT 6⟩
 simp (decide := true) only [Fact.G, hf.size, reduceIte, s0, s1, s5] at hKp
 replace hf := hf1; clear hT hf1 s0 s1 s5 b9 b10
 obtain ⟨s0, s1, s5, s6⟩ := hKp
 refine nx (hK3 _ _ ?_)
 refine Fact.sq fun K4 hK4 => ?_
 refine Fact.sq fun K5 hK5 => ?_
 refine rg ?_
 refine fp fun K Z => ?_
 go_simp
 apply Z.out; clear Z K
 refine Fact.z hf fun fr1 hf1 hT => ?_
 have hKp : _ ∧ _ ∧ _ ∧ _ := ⟨hT 0, hT 1, hT 6, hT 11⟩
 simp (decide := true) only [Fact.G, hf.size, reduceIte, s0, s1, s6] at hKp
 replace hf := hf1; clear hT hf1 s0 s1 s5 s6
 obtain ⟨s0, s1, s6, s11⟩ := hKp
 refine nx (hK5 _ _ ?_)
 refine Fact.cond_f s11 ?_
 refine wp_skip ?_
 refine nx (hK4 _ _ ?_)
 refine Fact.sq fun K6 hK6 => ?_
 refine Fact.sq fun K7 hK7 => ?_
 refine rg ?_
 refine fp fun K Z => ?_
 go_simp
 apply Z.out; clear Z K
 refine Fact.z hf fun fr1 hf1 hT => ?_
 have hKp : _ ∧ _ ∧ _ := ⟨hT 0, hT 1, hT 13⟩
 simp (decide := true) only [Fact.G, hf.size, reduceIte, s0, s1] at hKp
 replace hf := hf1; clear hT hf1 s0 s1 s6 s11
 obtain ⟨s0, s1, s13⟩ := hKp
 refine nx (hK7 _ _ ?_)
 refine Fact.cond_f s13 ?_
 refine wp_skip ?_
 refine nx (hK6 _ _ ?_)
 refine Fact.sq fun K8 hK8 => ?_
 refine Fact.sq fun K9 hK9 => ?_
 refine rg ?_
 have b14 := hf.b 14
 have b15 := hf.b 15
 refine fp fun K Z => ?_
 go_simp
 apply Z.out; clear Z K
 refine fp fun K Z => ?_
 go_simp
 apply Z.out; clear Z K
 refine fp fun K Z => ?_
 go_simp
 apply Z.out; clear Z K
 refine Fact.z hf fun fr1 hf1 hT => ?_
 have hKp : _ ∧ _ ∧ _ := ⟨hT 0, hT 1, hT 16⟩
 simp (decide := true) only [Fact.G, hf.size, reduceIte, s0, s1] at hKp
 replace hf := hf1; clear hT hf1 s0 s1 s13 b14 b15
 obtain ⟨s0, s1, s16⟩ := hKp
 refine nx (hK9 _ _ ?_)
 refine Fact.cond_f s16 ?_
 refine wp_skip ?_
 refine nx (hK8 _ _ ?_)
 refine Fact.sq fun K10 hK10 => ?_
 refine Fact.sq fun K11 hK11 => ?_
 refine rg ?_
 have b17 := hf.b 17
 have b18 := hf.b 18
 refine fp fun K Z => ?_
 go_simp
 apply Z.out; clear Z K
 refine fp fun K Z => ?_
 go_simp
 apply Z.out; clear Z K
 refine fp fun K Z => ?_
 go_simp
 apply Z.out; clear Z K
 refine Fact.z hf fun fr1 hf1 hT => ?_
 have hKp := hT 19
 simp (decide := true) only [Fact.G, hf.size, reduceIte] at hKp
 replace hf := hf1; clear hT hf1 s0 s1 s16 b17 b18
 have s19 := hKp; clear hKp
 refine nx (hK11 _ _ ?_)
 rw [r1, r2] at s19
 simp only [Bool.or_self, Bool.false_or, Bool.not_false, Bool.not_true] at s19
 refine Fact.cond_t s19 ?_
 refine Fact.sq fun K12 hK12 => ?_
 refine rg ?_
 refine fp fun K Z => ?_
 go_simp
 apply Z.out; clear Z K
 refine Fact.z hf fun fr1 hf1 hT => ?_
 have hKp := hT 4
 simp (decide := true) only [Fact.G, hf.size, reduceIte] at hKp
 replace hf := hf1; clear hT hf1 s19
 have s4 := hKp; clear hKp
 refine nx (hK12 _ _ ?_)
 refine wp_ret ?_
 refine Fact.then_ret ?_
 exact Fact.ret1 rfl hf s4 ⟨rfl, rfl⟩
set_option maxHeartbeats 4000000 in
set_option maxRecDepth 100000 in
theorem cmp54eq (a b : ByteArray) (h1 : Op.bytesLess a.toList b.toList = false) (h2 : (a.toList == b.toList) = true) (w : World) : Calls Tryd.prog 54 #[.string a, .string b] w fun e w1 => e = .returned (.int .i64 (0)) ∧ w = w1 := by
 refine calls_of_wp Tryd.func54 rfl ?_
 refine Fact.en 20 fun fr hf hT => ?_
 have s0 := hT 0 _ rfl
 have s1 := hT 1 _ rfl
 clear hT
 have r1 := h1
 have r2 := h2
 refine Fact.sq fun K1 hK1 => ?_
 refine rg ?_
 refine fp fun K Z => ?_
 go_simp
 apply Z.out; clear Z K
 refine Fact.z hf fun fr1 hf1 hT => ?_
 have hKp : _ ∧ _ := ⟨hT 0, hT 1⟩
 simp (decide := true) only [Fact.G, reduceIte, s0, s1] at hKp
 replace hf := hf1; clear hT hf1 s0 s1
 obtain ⟨s0, s1⟩ := hKp
 refine nx (hK1 _ _ ?_)
 refine Fact.sq fun K2 hK2 => ?_
 refine rg ?_
 have b7 := hf.b 7
 have b8 := hf.b 8
 refine fp fun K Z => ?_
 go_simp
 apply Z.out; clear Z K
 refine fp fun K Z => ?_
 go_simp
 go_at_call 61; refine (nan61 a w).mono ?_; rintro e w1 ⟨rfl, rfl⟩
 try dsimp only
 apply Z.out; clear Z K
 refine fp fun K Z => ?_
 go_simp
 apply Z.out; clear Z K
 refine Fact.z hf fun fr1 hf1 hT => ?_
 have hKp : _ ∧ _ ∧ _ := ⟨hT 0, hT 1, hT 5⟩
 simp (decide := true) only [Fact.G, hf.size, reduceIte, s0, s1] at hKp
 replace hf := hf1; clear hT hf1 s0 s1 b7 b8
 obtain ⟨s0, s1, s5⟩ := hKp
 refine nx (hK2 _ _ ?_)
 refine Fact.sq fun K3 hK3 => ?_
 refine rg ?_
 have b9 := hf.b 9
 have b10 := hf.b 10
 refine fp fun K Z => ?_
 go_simp
 apply Z.out; clear Z K
 refine fp fun K Z => ?_
 go_simp
 go_at_call 61; refine (nan61 b w).mono ?_; rintro e w2 ⟨rfl, rfl⟩
 try dsimp only
 apply Z.out; clear Z K
 refine fp fun K Z => ?_
 go_simp
 apply Z.out; clear Z K
 refine Fact.z hf fun fr1 hf1 hT => ?_
 have hKp : _ ∧ _ ∧ _ ∧ _ := ⟨hT 0, hT 1, hT 5, hT 6⟩
 simp (decide := true) only [Fact.G, hf.size, reduceIte, s0, s1, s5] at hKp
 replace hf := hf1; clear hT hf1 s0 s1 s5 b9 b10
 obtain ⟨s0, s1, s5, s6⟩ := hKp
 refine nx (hK3 _ _ ?_)
 refine Fact.sq fun K4 hK4 => ?_
 refine Fact.sq fun K5 hK5 => ?_
 refine rg ?_
 refine fp fun K Z => ?_
 go_simp
 apply Z.out; clear Z K
 refine Fact.z hf fun fr1 hf1 hT => ?_
 have hKp : _ ∧ _ ∧ _ ∧ _ := ⟨hT 0, hT 1, hT 6, hT 11⟩
 simp (decide := true) only [Fact.G, hf.size, reduceIte, s0, s1, s6] at hKp
 replace hf := hf1; clear hT hf1 s0 s1 s5 s6
 obtain ⟨s0, s1, s6, s11⟩ := hKp
 refine nx (hK5 _ _ ?_)
 refine Fact.cond_f s11 ?_
 refine wp_skip ?_
 refine nx (hK4 _ _ ?_)
 refine Fact.sq fun K6 hK6 => ?_
 refine Fact.sq fun K7 hK7 => ?_
 refine rg ?_
 refine fp fun K Z => ?_
 go_simp
 apply Z.out; clear Z K
 refine Fact.z hf fun fr1 hf1 hT => ?_
 have hKp : _ ∧ _ ∧ _ := ⟨hT 0, hT 1, hT 13⟩
 simp (decide := true) only [Fact.G, hf.size, reduceIte, s0, s1] at hKp
 replace hf := hf1; clear hT hf1 s0 s1 s6 s11
 obtain ⟨s0, s1, s13⟩ := hKp
 refine nx (hK7 _ _ ?_)
 refine Fact.cond_f s13 ?_
 refine wp_skip ?_
 refine nx (hK6 _ _ ?_)
 refine Fact.sq fun K8 hK8 => ?_
 refine Fact.sq fun K9 hK9 => ?_
 refine rg ?_
 have b14 := hf.b 14
 have b15 := hf.b 15
 refine fp fun K Z => ?_
 go_simp
 apply Z.out; clear Z K
 refine fp fun K Z => ?_
 go_simp
 apply Z.out; clear Z K
 refine fp fun K Z => ?_
 go_simp
 apply Z.out; clear Z K
 refine Fact.z hf fun fr1 hf1 hT => ?_
 have hKp : _ ∧ _ ∧ _ := ⟨hT 0, hT 1, hT 16⟩
 simp (decide := true) only [Fact.G, hf.size, reduceIte, s0, s1] at hKp
 replace hf := hf1; clear hT hf1 s0 s1 s13 b14 b15
 obtain ⟨s0, s1, s16⟩ := hKp
 refine nx (hK9 _ _ ?_)
 refine Fact.cond_f s16 ?_
 refine wp_skip ?_
 refine nx (hK8 _ _ ?_)
 refine Fact.sq fun K10 hK10 => ?_
 refine Fact.sq fun K11 hK11 => ?_
 refine rg ?_
 have b17 := hf.b 17
 have b18 := hf.b 18
 refine fp fun K Z => ?_
 go_simp
 apply Z.out; clear Z K
 refine fp fun K Z => ?_
 go_simp
 apply Z.out; clear Z K
 refine fp fun K Z => ?_
 go_simp
 apply Z.out; clear Z K
 refine Fact.z hf fun fr1 hf1 hT => ?_
 have hKp := hT 19
 simp (decide := true) only [Fact.G, hf.size, reduceIte] at hKp
 replace hf := hf1; clear hT hf1 s0 s1 s16 b17 b18
 have s19 := hKp; clear hKp
 refine nx (hK11 _ _ ?_)
 rw [r1, r2] at s19
 simp only [Bool.or_self, Bool.false_or, Bool.not_false, Bool.not_true] at s19
 refine Fact.cond_f s19 ?_
 refine wp_skip ?_
 refine nx (hK10 _ _ ?_)
 refine Fact.sq fun K12 hK12 => ?_
 refine rg ?_
 refine fp fun K Z => ?_
 go_simp
 apply Z.out; clear Z K
 refine Fact.z hf fun fr1 hf1 hT => ?_
 have hKp := hT 4
 simp (decide := true) only [Fact.G, hf.size, reduceIte] at hKp
 replace hf := hf1; clear hT hf1 s19
 have s4 := hKp; clear hKp
 refine nx (hK12 _ _ ?_)
 refine wp_ret ?_
 exact Fact.ret1 rfl hf s4 ⟨rfl, rfl⟩
def cmpS (a b : ByteArray) : Int := if lexlt (wl a) (wl b) then -1 else if (a.toList == b.toList) = true then 0 else 1
theorem cmp54 (a b : ByteArray) (w : World) : Calls Tryd.prog 54 #[.string a, .string b] w fun e w1 => e = .returned (.int .i64 (cmpS a b)) ∧ w = w1 := by
  unfold cmpS
  rw [← less_eq]
  cases h1 : Op.bytesLess a.toList b.toList with
  | true => exact cmp54lt a b h1 w
  | false =>
    cases h2 : (a.toList == b.toList) with
    | true => exact cmp54eq a b h1 h2 w
    | false => exact cmp54gt a b h1 h2 w

set_option maxHeartbeats 4000000 in
set_option maxRecDepth 100000 in
theorem by46 (e : Ent) (b : ByteArray) (w : World) : Calls Tryd.prog 46 #[eval e, .string b] w fun e1 w1 => e1 = .returned (.int .i64 (cmpS e.word b)) ∧ Below w.heap.size w w1 := by
 refine calls_of_wp Tryd.func46 rfl ?_
 refine Fact.en 9 fun fr hf hT => ?_
 have s0 := hT 0 _ rfl
 have s1 := hT 1 _ rfl
 clear hT
 simp only [eval] at s0
 refine Fact.sq fun K1 hK1 => ?_
 refine rg ?_
 refine fp fun K Z => ?_
 go_simp
 apply Z.out; clear Z K
 refine fp fun K Z => ?_
 go_simp
 apply Z.out; clear Z K
 refine Fact.z hf fun fr1 hf1 hT => ?_
 have hKp : _ ∧ _ := ⟨hT 1, hT 2⟩
 simp (decide := true) only [Fact.G, hf.size, reduceIte, s1] at hKp
 replace hf := hf1; clear hT hf1 s0 s1
 obtain ⟨s1, s2⟩ := hKp
 refine nx (hK1 _ _ ?_)
 refine Fact.sq fun K2 hK2 => ?_
 refine rg ?_
 have b5 := hf.b 5
 have b6 := hf.b 6
 have b7 := hf.b 7
 have b8 := hf.b 8
 refine fp fun K Z => ?_
 go_simp
 apply Z.out; clear Z K
 refine fp fun K Z => ?_
 go_simp
 apply Z.out; clear Z K
 refine fp fun K Z => ?_
 go_simp
 apply Z.out; clear Z K
 refine fp fun K Z => ?_
 go_simp
 go_at_call 54; refine (cmp54 e.word b (w.alloc (.cells #[.string e.word, .int .u32 e.weight, .bool e.gone] 42))).mono ?_; rintro e w2 ⟨rfl, rfl⟩
 try dsimp only
 apply Z.out; clear Z K
 refine fp fun K Z => ?_
 go_simp
 apply Z.out; clear Z K
 refine Fact.z hf fun fr1 hf1 hT => ?_
 have hKp := hT 4
 simp (decide := true) only [Fact.G, hf.size, reduceIte] at hKp
 replace hf := hf1; clear hT hf1 s1 s2 b5 b6 b7 b8
 have s4 := hKp; clear hKp
 refine nx (hK2 _ _ ?_)
 refine wp_ret ?_
 exact Fact.ret1 rfl hf s4 ⟨rfl, (Below.refl _ _).alloc (Nat.le_refl _) _⟩
set_option maxHeartbeats 4000000 in
set_option maxRecDepth 100000 in
theorem chk52e (s : ByteArray) (h1 : s.toList.isEmpty = true) (w : World) : Calls Tryd.prog 52 #[.string s] w fun e w1 => e = .returned (.bool (okW s)) ∧ w = w1 := by
 refine calls_of_wp Tryd.func52 rfl ?_
 refine Fact.en 10 fun fr hf hT => ?_
 have s0 := hT 0 _ rfl
 clear hT
 have q1 := h1
 refine Fact.sq fun K1 hK1 => ?_
 refine rg ?_
 refine fp fun K Z => ?_
 go_simp
 apply Z.out; clear Z K
 refine Fact.z hf fun fr1 hf1 hT => ?_
 have hKp := hT 0
 simp (decide := true) only [Fact.G, reduceIte, s0] at hKp
 replace hf := hf1; clear hT hf1 s0
 have s0 := hKp; clear hKp
 refine nx (hK1 _ _ ?_)
 refine Fact.sq fun K2 hK2 => ?_
 refine rg ?_
 have b3 := hf.b 3
 have b4 := hf.b 4
 have b5 := hf.b 5
 have b6 := hf.b 6
 have b7 := hf.b 7
 have b8 := hf.b 8
 have b9 := hf.b 9
 refine fp fun K Z => ?_
 go_simp
 apply Z.out; clear Z K
 refine fp fun K Z => ?_
 go_simp
 apply Z.out; clear Z K
 refine fp fun K Z => ?_
 go_simp
 apply Z.out; clear Z K
 refine sk 2 5 true ?_ ?_
 · (
 simp (decide := true) only [Fact.G, reduceIte, hf.size, q1, Fact.N])
 refine sk 2 5 true ?_ ?_
 · (
 simp (decide := true) only [Fact.G, reduceIte, hf.size, q1, Fact.N])
 refine sk 2 5 true ?_ ?_
 · (
 simp (decide := true) only [Fact.G, reduceIte, hf.size, q1, Fact.N])
 refine fp fun K Z => ?_
 go_simp
 apply Z.out; clear Z K
 refine fp fun K Z => ?_
 go_simp
 apply Z.out; clear Z K
 refine Fact.z hf fun fr1 hf1 hT => ?_
 have hKp := hT 2
 simp (decide := true) only [Fact.G, hf.size, reduceIte] at hKp
 replace hf := hf1; clear hT hf1 s0 b3 b4 b5 b6 b7 b8 b9
 have s2 := hKp; clear hKp
 refine nx (hK2 _ _ ?_)
 refine wp_ret ?_
 exact Fact.ret1 rfl hf s2 ⟨by simp [okW, h1], rfl⟩
set_option maxHeartbeats 4000000 in
set_option maxRecDepth 100000 in
theorem chk52n (s : ByteArray) (h1 : s.toList.isEmpty = false) (w : World) : Calls Tryd.prog 52 #[.string s] w fun e w1 => e = .returned (.bool (okW s)) ∧ w = w1 := by
 refine calls_of_wp Tryd.func52 rfl ?_
 refine Fact.en 10 fun fr hf hT => ?_
 have s0 := hT 0 _ rfl
 clear hT
 have q1 := h1
 refine Fact.sq fun K1 hK1 => ?_
 refine rg ?_
 refine fp fun K Z => ?_
 go_simp
 apply Z.out; clear Z K
 refine Fact.z hf fun fr1 hf1 hT => ?_
 have hKp := hT 0
 simp (decide := true) only [Fact.G, reduceIte, s0] at hKp
 replace hf := hf1; clear hT hf1 s0
 have s0 := hKp; clear hKp
 refine nx (hK1 _ _ ?_)
 refine Fact.sq fun K2 hK2 => ?_
 refine rg ?_
 have b3 := hf.b 3
 have b4 := hf.b 4
 have b5 := hf.b 5
 have b6 := hf.b 6
 have b7 := hf.b 7
 have b8 := hf.b 8
 have b9 := hf.b 9
 refine fp fun K Z => ?_
 go_simp
 apply Z.out; clear Z K
 refine fp fun K Z => ?_
 go_simp
 apply Z.out; clear Z K
 refine fp fun K Z => ?_
 go_simp
 apply Z.out; clear Z K
 refine og 2 5 true ?_ fun K Z => ?_
 · (
 simp (decide := true) only [Fact.G, reduceIte, hf.size, q1, Fact.N])
 go_simp
 apply Z.out; clear Z K
 refine og 2 5 true ?_ fun K Z => ?_
 · (
 simp (decide := true) only [Fact.G, reduceIte, hf.size, q1, Fact.N])
 go_simp
 apply Z.out; clear Z K
 refine og 2 5 true ?_ fun K Z => ?_
 · (
 simp (decide := true) only [Fact.G, reduceIte, hf.size, q1, Fact.N])
 go_simp
 apply Z.out; clear Z K
 refine fp fun K Z => ?_
 go_simp
 apply Z.out; clear Z K
 refine fp fun K Z => ?_
 go_simp
 apply Z.out; clear Z K
 refine Fact.z hf fun fr1 hf1 hT => ?_
 have hKp := hT 2
 simp (decide := true) only [Fact.G, hf.size, reduceIte] at hKp
 replace hf := hf1; clear hT hf1 s0 b3 b4 b5 b6 b7 b8 b9
 have s2 := hKp; clear hKp
 refine nx (hK2 _ _ ?_)
 refine wp_ret ?_
 exact Fact.ret1 rfl hf s2 ⟨by simp [okW, h1]; try omega, rfl⟩
theorem chk52 (s : ByteArray) (w : World) : Calls Tryd.prog 52 #[.string s] w fun e w1 => e = .returned (.bool (okW s)) ∧ w = w1 := by
  cases h : s.toList.isEmpty with
  | true => exact chk52e s h w
  | false => exact chk52n s h w

end Dw
end Go.Proofs.YtgjfhedgdbbinaaDoor
