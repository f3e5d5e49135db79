/- pack: reads. -/
import Derived.Test.YtdkbgbdgmihlmaaDoorPR10
import Derived.Test.YtdkbgbdgmihlmaaDoorPTold
import Derived.Test.YtdkbgbdgmihlmaaDoorQJ
import Derived.Test.YtdkbgbdgmihlmaaDoorDSame
import Derived.Test.YtdkbgbdgmihlmaaDoorTools
namespace Go.Proofs.YtdkbgbdgmihlmaaDoor
open Go.RowKit
set_option linter.unusedSimpArgs false
set_option linter.unusedVariables false
set_option linter.unnecessarySimpa false
namespace Dw
set_option maxHeartbeats 4000000 in
set_option maxRecDepth 100000 in
theorem reads_err (w : World) (s : ByteArray) (hsz : s.size ≤ 900000000) (hE : ETy w) (b : Bad) (hp : pGet s = .error b) : Calls Tryd.prog 11 #[.string s] w fun e w1 => e = .returned (.bool true) ∧ Below w.heap.size w w1 := by
 refine calls_of_wp Tryd.func11 rfl ?_
 refine Fact.en 34 fun fr hf hT => ?_
 have s0 := hT 0 _ rfl
 clear hT
 have HP := Lib.hid hp; clear hp
 have hbt := Below.refl w.heap.size w
 refine Fact.sq fun K1 hK1 => ?_
 refine rg ?_
 refine fp fun K Z => ?_
 go_simp
 apply Z.out; clear Z K
 refine Fact.z hf fun fr1 hf1 hT => ?_
 have hKp := hT 0
 simp (decide := true) only [Fact.G, reduceIte, s0] at hKp
 replace hf := hf1; clear hT hf1 s0
 have s0 := hKp; clear hKp
 refine nx (hK1 _ _ ?_)
 refine Fact.sq fun K2 hK2 => ?_
 refine rg ?_
 have b10 := hf.b 10
 have b11 := hf.b 11
 have b9 := hf.b 9
 have b12 := hf.b 12
 have b13 := hf.b 13
 have b14 := hf.b 14
 have b4 := hf.b 4
 refine fp fun K Z => ?_
 go_simp
 apply Z.out; clear Z K
 refine fp fun K Z => ?_
 go_simp
 go_at_call 15; refine (get15 w s hsz).mono ?_; rintro e u1 hget
 rw [HP.out] at hget
 obtain ⟨q, rfl, hq1, hq, hb1⟩ := hget
 try dsimp only at hq ⊢
 replace hE := cL hb1 hE
 replace hbt := hbt.trans (hb1.mono hbt.size)
 try dsimp only
 apply Z.out; clear Z K
 refine fp fun K Z => ?_
 go_simp
 apply Z.out; clear Z K
 refine fp fun K Z => ?_
 go_simp
 apply Z.out; clear Z K
 refine fp fun K Z => ?_
 go_simp
 apply Z.out; clear Z K
 refine fp fun K Z => ?_
 go_simp
 apply Z.out; clear Z K
 refine fp fun K Z => ?_
 go_simp
 apply Z.out; clear Z K
 refine fp fun K Z => ?_
 go_simp
 apply Z.out; clear Z K
 refine fp fun K Z => ?_
 go_simp
 apply Z.out; clear Z K
 refine fp fun K Z => ?_
 go_simp
 apply Z.out; clear Z K
 refine Fact.z hf fun fr1 hf1 hT => ?_
 have hKp : _ ∧ _ ∧ _ ∧ _ := ⟨hT 0, hT 3, hT 4, hT 5⟩
 simp (decide := true) only [Fact.G, hf.size, reduceIte, s0] at hKp
 replace hf := hf1; clear hT hf1 s0 b10 b11 b9 b12 b13 b14 b4
 obtain ⟨s0, s3, s4, s5⟩ := hKp
 obtain ⟨W1, hW1⟩ : ∃ W0, u1.alloc (.cells #[.slice none 0 0, .int .u64 0] 25) = W0 := ⟨_, rfl⟩
 try rw [hW1]
 obtain ⟨hbA, a0, a1, -, -⟩ := box2 hW1
 clear hW1
 replace hE := cL hbA hE
 replace hbt := hbt.trans (hbA.mono hbt.size)
 replace hq := (hbA.block q (heap_lt hq)).trans hq
 refine nx (hK2 _ _ ?_)
 refine Fact.sq fun K3 hK3 => ?_
 refine rg ?_
 have b16 := hf.b 16
 have b17 := hf.b 17
 have b15 := hf.b 15
 have b18 := hf.b 18
 have b19 := hf.b 19
 have b20 := hf.b 20
 have b7 := hf.b 7
 have b8 := hf.b 8
 refine fp fun K Z => ?_
 go_simp
 apply Z.out; clear Z K
 refine fp fun K Z => ?_
 go_simp
 go_at_call 27; refine (rget27 W1 s hsz).mono ?_; rintro e u2 hget
 rw [HP.out] at hget
 obtain ⟨rfl, hb0, hb2⟩ := hget
 try dsimp only
 replace a0 := cL hb2 a0; replace a1 := cL hb2 a1
 replace hq := (hb2.block q (heap_lt hq)).trans hq
 replace hE := cL hb2 hE
 replace hbt := hbt.trans (hb2.mono hbt.size)
 try dsimp only
 apply Z.out; clear Z K
 refine fp fun K Z => ?_
 go_simp
 apply Z.out; clear Z K
 refine fp fun K Z => ?_
 go_simp
 apply Z.out; clear Z K
 refine fp fun K Z => ?_
 go_simp
 apply Z.out; clear Z K
 refine fp fun K Z => ?_
 go_simp
 apply Z.out; clear Z K
 refine fp fun K Z => ?_
 go_simp
 apply Z.out; clear Z K
 refine fp fun K Z => ?_
 go_simp
 apply Z.out; clear Z K
 refine fp fun K Z => ?_
 go_simp
 apply Z.out; clear Z K
 refine fp fun K Z => ?_
 go_simp
 apply Z.out; clear Z K
 refine fp fun K Z => ?_
 go_simp
 apply Z.out; clear Z K
 refine Fact.z hf fun fr1 hf1 hT => ?_
 have hKp : _ ∧ _ ∧ _ ∧ _ ∧ _ ∧ _ := ⟨hT 3, hT 4, hT 5, hT 6, hT 7, hT 8⟩
 simp (decide := true) only [Fact.G, hf.size, reduceIte, s3, s4, s5] at hKp
 replace hf := hf1; clear hT hf1 s0 s3 s4 s5 b16 b17 b15 b18 b19 b20 b7 b8
 obtain ⟨s3, s4, s5, s6, s7, s8⟩ := hKp
 obtain ⟨W2, hW2⟩ : ∃ x, (u2.alloc (.cells #[.slice none 0 0, .int .u64 0] 25)).alloc (.cells #[.int .i64 b.1, .int .i64 b.2] 53) = x := ⟨_, rfl⟩
 try rw [hW2]
 try simp only [World.size_alloc] at s7 s8
 obtain ⟨hbB, hpx, hpy⟩ := two_boxesT hW2
 clear hW2
 have d0 := cell_of_row _ _ 0 _ 25 (0, 0) hpx; have d1 := cell_of_row _ _ 1 _ 25 (0, 0) hpx; have g0 := cell_of_row _ _ 0 _ 53 (0, 0) hpy; have g1 := cell_of_row _ _ 1 _ 53 (0, 0) hpy
 simp at d0 d1 g0 g1
 replace a0 := cL hbB a0; replace a1 := cL hbB a1
 replace hq := (hbB.block q (heap_lt hq)).trans hq
 replace hE := cL hbB hE
 replace hbt := hbt.trans (hbB.mono hbt.size)
 refine nx (hK3 _ _ ?_)
 refine Fact.sq fun K4 hK4 => ?_
 refine rg ?_
 have b21 := hf.b 21
 have b22 := hf.b 22
 have b23 := hf.b 23
 have b24 := hf.b 24
 have b25 := hf.b 25
 have b26 := hf.b 26
 have b27 := hf.b 27
 have b28 := hf.b 28
 have b29 := hf.b 29
 have b30 := hf.b 30
 have b31 := hf.b 31
 have b32 := hf.b 32
 have b33 := hf.b 33
 refine fp fun K Z => ?_
 go_simp
 apply Z.out; clear Z K
 refine fp fun K Z => ?_
 go_simp
 apply Z.out; clear Z K
 refine fp fun K Z => ?_
 go_simp
 apply Z.out; clear Z K
 refine fp fun K Z => ?_
 go_simp
 apply Z.out; clear Z K
 refine og 3 24 true ?_ fun K Z => ?_
 · (
 simp (decide := true) only [Fact.G, reduceIte, hf.size])
 go_simp
 apply Z.out; clear Z K
 refine og 3 24 true ?_ fun K Z => ?_
 · (
 simp (decide := true) only [Fact.G, reduceIte, hf.size])
 go_simp
 apply Z.out; clear Z K
 refine og 3 24 true ?_ fun K Z => ?_
 · (
 simp (decide := true) only [Fact.G, reduceIte, hf.size])
 go_simp
 go_at_call 16; refine (rsame W2 [] [] 0 0 _ _ (RS.nil_ W2) (RS.nil_ W2) (by simp) (by simp) (by simp) (by simp)).mono ?_; rintro e u3 ⟨rfl, hb3⟩
 rw [decide_eq_true ⟨rfl, rfl⟩]
 replace g0 := cL hb3 g0; replace g1 := cL hb3 g1
 replace hq := (hb3.block q (heap_lt hq)).trans hq
 replace hE := cL hb3 hE
 replace hbt := hbt.trans (hb3.mono hbt.size)
 try dsimp only
 apply Z.out; clear Z K
 refine fp fun K Z => ?_
 go_simp
 apply Z.out; clear Z K
 refine fp fun K Z => ?_
 go_simp
 apply Z.out; clear Z K
 refine og 8 29 true ?_ fun K Z => ?_
 · (
 simp (decide := true) only [Fact.G, reduceIte, hf.size])
 go_simp
 apply Z.out; clear Z K
 refine og 8 29 true ?_ fun K Z => ?_
 · (
 simp (decide := true) only [Fact.G, reduceIte, hf.size])
 go_simp
 apply Z.out; clear Z K
 refine og 8 29 true ?_ fun K Z => ?_
 · (
 simp (decide := true) only [Fact.G, reduceIte, hf.size])
 go_simp
 go_at_call 18; refine (told_yes u3 q b.1 b.2 b.1 b.2 hq hE (by omega) ⟨rfl, rfl⟩).mono ?_; rintro e u4 ⟨rfl, hb4⟩
 try rw [beq_self_eq_true]
 replace hE := cL hb4 hE
 replace hbt := hbt.trans (hb4.mono hbt.size)
 try dsimp only
 apply Z.out; clear Z K
 refine fp fun K Z => ?_
 go_simp
 apply Z.out; clear Z K
 refine fp fun K Z => ?_
 go_simp
 apply Z.out; clear Z K
 refine Fact.z hf fun fr1 hf1 hT => ?_
 have hKp := hT 2
 simp (decide := true) only [Fact.G, hf.size, reduceIte] at hKp
 replace hf := hf1; clear hT hf1 s3 s4 s5 s6 s7 s8 b21 b22 b23 b24 b25 b26 b27 b28 b29 b30 b31 b32 b33
 have s2 := hKp; clear hKp
 refine nx (hK4 _ _ ?_)
 refine wp_ret ?_
 exact Fact.ret1 rfl hf s2 ⟨rfl, hbt⟩
set_option maxHeartbeats 4000000 in
set_option maxRecDepth 100000 in
theorem reads_ok (w : World) (s : ByteArray) (hsz : s.size ≤ 900000000) (hE : ETy w) (en init : Nat) (ss : List State) (hp : pGet s = .ok (en, init, ss)) : Calls Tryd.prog 11 #[.string s] w fun e w1 => e = .returned (.bool true) ∧ Below w.heap.size w w1 := by
 refine calls_of_wp Tryd.func11 rfl ?_
 refine Fact.en 34 fun fr hf hT => ?_
 have s0 := hT 0 _ rfl
 clear hT
 have HP := Lib.hid hp; clear hp
 have hbt := Below.refl w.heap.size w
 obtain ⟨hmf, hok, -, hln, -⟩ := pGet_back hsz HP.out
 have HOK := Lib.hid hok; clear hmf hok
 refine Fact.sq fun K1 hK1 => ?_
 refine rg ?_
 refine fp fun K Z => ?_
 go_simp
 apply Z.out; clear Z K
 refine Fact.z hf fun fr1 hf1 hT => ?_
 have hKp := hT 0
 simp (decide := true) only [Fact.G, reduceIte, s0] at hKp
 replace hf := hf1; clear hT hf1 s0
 have s0 := hKp; clear hKp
 refine nx (hK1 _ _ ?_)
 refine Fact.sq fun K2 hK2 => ?_
 refine rg ?_
 have b10 := hf.b 10
 have b11 := hf.b 11
 have b9 := hf.b 9
 have b12 := hf.b 12
 have b13 := hf.b 13
 have b14 := hf.b 14
 have b4 := hf.b 4
 refine fp fun K Z => ?_
 go_simp
 apply Z.out; clear Z K
 refine fp fun K Z => ?_
 go_simp
 go_at_call 15; refine (get15 w s hsz).mono ?_; rintro e u1 hget
 rw [HP.out] at hget
 obtain ⟨sv, rfl, hr, hb1⟩ := hget
 try dsimp only
 obtain ⟨A, cc, hsv, _⟩ := hr.form
 subst hsv
 replace hE := cL hb1 hE
 replace hbt := hbt.trans (hb1.mono hbt.size)
 try dsimp only
 apply Z.out; clear Z K
 refine fp fun K Z => ?_
 go_simp
 apply Z.out; clear Z K
 refine fp fun K Z => ?_
 go_simp
 apply Z.out; clear Z K
 refine fp fun K Z => ?_
 go_simp
 apply Z.out; clear Z K
 refine fp fun K Z => ?_
 go_simp
 apply Z.out; clear Z K
 refine fp fun K Z => ?_
 go_simp
 apply Z.out; clear Z K
 refine fp fun K Z => ?_
 go_simp
 apply Z.out; clear Z K
 refine fp fun K Z => ?_
 go_simp
 apply Z.out; clear Z K
 refine fp fun K Z => ?_
 go_simp
 apply Z.out; clear Z K
 refine Fact.z hf fun fr1 hf1 hT => ?_
 have hKp : _ ∧ _ ∧ _ ∧ _ := ⟨hT 0, hT 3, hT 4, hT 5⟩
 simp (decide := true) only [Fact.G, hf.size, reduceIte, s0] at hKp
 replace hf := hf1; clear hT hf1 s0 b10 b11 b9 b12 b13 b14 b4
 obtain ⟨s0, s3, s4, s5⟩ := hKp
 obtain ⟨W1, hW1⟩ : ∃ W0, u1.alloc (.cells #[.slice A ss.length cc, .int .u64 init] 25) = W0 := ⟨_, rfl⟩
 try rw [hW1]
 obtain ⟨hbA, a0, a1, -, -⟩ := box2 hW1
 clear hW1
 replace hE := cL hbA hE
 replace hbt := hbt.trans (hbA.mono hbt.size)
 replace hr := hr.later hbA
 refine nx (hK2 _ _ ?_)
 refine Fact.sq fun K3 hK3 => ?_
 refine rg ?_
 have b16 := hf.b 16
 have b17 := hf.b 17
 have b15 := hf.b 15
 have b18 := hf.b 18
 have b19 := hf.b 19
 have b20 := hf.b 20
 have b7 := hf.b 7
 have b8 := hf.b 8
 refine fp fun K Z => ?_
 go_simp
 apply Z.out; clear Z K
 refine fp fun K Z => ?_
 go_simp
 go_at_call 27; refine (rget27 W1 s hsz).mono ?_; rintro e u2 hget
 rw [HP.out] at hget
 obtain ⟨sv2, rfl, hr2, hb2⟩ := hget
 try dsimp only
 obtain ⟨A2, cc2, hsv2, _⟩ := hr2.form
 subst hsv2
 replace a0 := cL hb2 a0; replace a1 := cL hb2 a1
 replace hr := hr.later hb2
 replace hE := cL hb2 hE
 replace hbt := hbt.trans (hb2.mono hbt.size)
 try dsimp only
 apply Z.out; clear Z K
 refine fp fun K Z => ?_
 go_simp
 apply Z.out; clear Z K
 refine fp fun K Z => ?_
 go_simp
 apply Z.out; clear Z K
 refine fp fun K Z => ?_
 go_simp
 apply Z.out; clear Z K
 refine fp fun K Z => ?_
 go_simp
 apply Z.out; clear Z K
 refine fp fun K Z => ?_
 go_simp
 apply Z.out; clear Z K
 refine fp fun K Z => ?_
 go_simp
 apply Z.out; clear Z K
 refine fp fun K Z => ?_
 go_simp
 apply Z.out; clear Z K
 refine fp fun K Z => ?_
 go_simp
 apply Z.out; clear Z K
 refine fp fun K Z => ?_
 go_simp
 apply Z.out; clear Z K
 refine Fact.z hf fun fr1 hf1 hT => ?_
 have hKp : _ ∧ _ ∧ _ ∧ _ ∧ _ ∧ _ := ⟨hT 3, hT 4, hT 5, hT 6, hT 7, hT 8⟩
 simp (decide := true) only [Fact.G, hf.size, reduceIte, s3, s4, s5] at hKp
 replace hf := hf1; clear hT hf1 s0 s3 s4 s5 b16 b17 b15 b18 b19 b20 b7 b8
 obtain ⟨s3, s4, s5, s6, s7, s8⟩ := hKp
 obtain ⟨W2, hW2⟩ : ∃ x, (u2.alloc (.cells #[.slice A2 ss.length cc2, .int .u64 init] 25)).alloc (.cells #[.int .i64 0, .int .i64 0] 53) = x := ⟨_, rfl⟩
 try rw [hW2]
 try simp only [World.size_alloc] at s7 s8
 obtain ⟨hbB, hpx, hpy⟩ := two_boxesT hW2
 clear hW2
 have d0 := cell_of_row _ _ 0 _ 25 (0, 0) hpx; have d1 := cell_of_row _ _ 1 _ 25 (0, 0) hpx; have g0 := cell_of_row _ _ 0 _ 53 (0, 0) hpy; have g1 := cell_of_row _ _ 1 _ 53 (0, 0) hpy
 simp at d0 d1 g0 g1
 replace a0 := cL hbB a0; replace a1 := cL hbB a1
 replace hr := hr.later hbB
 replace hE := cL hbB hE
 replace hbt := hbt.trans (hbB.mono hbt.size)
 replace hr2 := hr2.later hbB
 refine nx (hK3 _ _ ?_)
 refine Fact.sq fun K4 hK4 => ?_
 refine rg ?_
 have b21 := hf.b 21
 have b22 := hf.b 22
 have b23 := hf.b 23
 have b24 := hf.b 24
 have b25 := hf.b 25
 have b26 := hf.b 26
 have b27 := hf.b 27
 have b28 := hf.b 28
 have b29 := hf.b 29
 have b30 := hf.b 30
 have b31 := hf.b 31
 have b32 := hf.b 32
 have b33 := hf.b 33
 refine fp fun K Z => ?_
 go_simp
 apply Z.out; clear Z K
 refine fp fun K Z => ?_
 go_simp
 apply Z.out; clear Z K
 refine fp fun K Z => ?_
 go_simp
 apply Z.out; clear Z K
 refine fp fun K Z => ?_
 go_simp
 apply Z.out; clear Z K
 refine og 3 24 true ?_ fun K Z => ?_
 · (
 simp (decide := true) only [Fact.G, reduceIte, hf.size])
 go_simp
 apply Z.out; clear Z K
 refine og 3 24 true ?_ fun K Z => ?_
 · (
 simp (decide := true) only [Fact.G, reduceIte, hf.size])
 go_simp
 apply Z.out; clear Z K
 refine og 3 24 true ?_ fun K Z => ?_
 · (
 simp (decide := true) only [Fact.G, reduceIte, hf.size])
 go_simp
 go_at_call 16; refine (rsame W2 ss ss init init _ _ hr hr2 (fun s hs => by have := (HOK.out s hs).2.1; omega) (fun s hs => by have := (HOK.out s hs).2.1; omega) (by omega) (by omega)).mono ?_; rintro e u3 ⟨rfl, hb3⟩
 rw [decide_eq_true ⟨rfl, rfl⟩]
 replace g0 := cL hb3 g0; replace g1 := cL hb3 g1
 replace hE := cL hb3 hE
 replace hbt := hbt.trans (hb3.mono hbt.size)
 try dsimp only
 apply Z.out; clear Z K
 refine fp fun K Z => ?_
 go_simp
 apply Z.out; clear Z K
 refine fp fun K Z => ?_
 go_simp
 apply Z.out; clear Z K
 refine og 8 29 true ?_ fun K Z => ?_
 · (
 simp (decide := true) only [Fact.G, reduceIte, hf.size])
 go_simp
 apply Z.out; clear Z K
 refine og 8 29 true ?_ fun K Z => ?_
 · (
 simp (decide := true) only [Fact.G, reduceIte, hf.size])
 go_simp
 apply Z.out; clear Z K
 refine og 8 29 true ?_ fun K Z => ?_
 · (
 simp (decide := true) only [Fact.G, reduceIte, hf.size])
 go_simp
 go_at_call 18; refine (told_nil1 u3 0 0 rfl).mono ?_; rintro e u4 ⟨rfl, hb4⟩
 try rw [beq_self_eq_true]
 replace hE := cL hb4 hE
 replace hbt := hbt.trans (hb4.mono hbt.size)
 try dsimp only
 apply Z.out; clear Z K
 refine fp fun K Z => ?_
 go_simp
 apply Z.out; clear Z K
 refine fp fun K Z => ?_
 go_simp
 apply Z.out; clear Z K
 refine Fact.z hf fun fr1 hf1 hT => ?_
 have hKp := hT 2
 simp (decide := true) only [Fact.G, hf.size, reduceIte] at hKp
 replace hf := hf1; clear hT hf1 s3 s4 s5 s6 s7 s8 b21 b22 b23 b24 b25 b26 b27 b28 b29 b30 b31 b32 b33
 have s2 := hKp; clear hKp
 refine nx (hK4 _ _ ?_)
 refine wp_ret ?_
 exact Fact.ret1 rfl hf s2 ⟨rfl, hbt⟩
theorem reads11 (w : World) (s : ByteArray) (hsz : s.size ≤ 900000000) (hE : ETy w) : Calls Tryd.prog 11 #[.string s] w fun e w1 => e = .returned (.bool true) ∧ Below w.heap.size w w1 := by
  cases h : pGet s with
  | error b => exact reads_err w s hsz hE b h
  | ok x => obtain ⟨en, init, ss⟩ := x; exact reads_ok w s hsz hE en init ss h
end Dw
end Go.Proofs.YtdkbgbdgmihlmaaDoor
