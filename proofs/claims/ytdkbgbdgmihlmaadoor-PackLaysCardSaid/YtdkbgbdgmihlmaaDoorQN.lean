/- cedillaref15: one, May. -/
import Derived.Test.YtdkbgbdgmihlmaaDoorQM
import Derived.Test.YtdkbgbdgmihlmaaDoorTools
import Derived.Test.YtdkbgbdgmihlmaaDoorQJ
namespace Go.Proofs.YtdkbgbdgmihlmaaDoor
open Go.RowKit
set_option linter.unusedSimpArgs false
set_option linter.unusedVariables false
set_option linter.unnecessarySimpa false
namespace Dw
set_option maxHeartbeats 4000000 in
set_option maxRecDepth 100000 in
theorem rone (w : World) (n : Nat) (hn : n < M64) : Calls Tryd.prog 24 #[.int .u64 n] w fun e w1 => e = .returned (.string (bl (numB n))) ∧ Below w.heap.size w w1 := by
 refine calls_of_wp Tryd.func24 rfl ?_
 refine Fact.en 5 fun fr hf hT => ?_
 have s0 := hT 0 _ rfl
 clear hT
 refine Fact.sq fun K1 hK1 => ?_
 refine rg ?_
 refine fp fun K Z => ?_
 go_simp
 apply Z.out; clear Z K
 refine Fact.z hf fun fr1 hf1 hT => ?_
 have hKp := hT 0
 simp (decide := true) only [Fact.G, reduceIte, s0] at hKp
 replace hf := hf1; clear hT hf1 s0
 have s0 := hKp; clear hKp
 refine nx (hK1 _ _ ?_)
 refine Fact.sq fun K2 hK2 => ?_
 refine rg ?_
 have b3 := hf.b 3
 have b4 := hf.b 4
 refine fp fun K Z => ?_
 go_simp
 apply Z.out; clear Z K
 refine fp fun K Z => ?_
 go_simp
 go_at_call 41; refine (rput w n hn).mono ?_; rintro e w1 ⟨rfl, hb1⟩
 try dsimp only
 apply Z.out; clear Z K
 refine fp fun K Z => ?_
 go_simp
 apply Z.out; clear Z K
 refine Fact.z hf fun fr1 hf1 hT => ?_
 have hKp := hT 2
 simp (decide := true) only [Fact.G, hf.size, reduceIte] at hKp
 replace hf := hf1; clear hT hf1 s0 b3 b4
 have s2 := hKp; clear hKp
 refine nx (hK2 _ _ ?_)
 refine wp_ret ?_
 exact Fact.ret1 rfl hf s2 ⟨rfl, hb1⟩
set_option maxHeartbeats 4000000 in
set_option maxRecDepth 100000 in
theorem rmay (w : World) (en : Int) (sv : Value) (init : Nat) (ss : List State) (hrs : RS w sv ss) (hok : ∀ s ∈ ss, okS s) (hlen : ss.length ≤ 1000000) (hfew : ∀ s ∈ ss, s.arcs.length ≤ 1000) : Calls Tryd.prog 23 #[.int .i64 en, .agg #[sv, .int .u64 init]] w fun e w1 => e = .returned (.bool (mayF en ss)) ∧ Below w.heap.size w w1 := by
 refine calls_of_wp Tryd.func23 rfl ?_
 refine Fact.en 70 fun fr hf hT => ?_
 have s0 := hT 0 _ rfl
 have s1 := hT 1 _ rfl
 clear hT
 obtain ⟨A, cc, rfl, hcc⟩ := hrs.form
 have HO := Lib.hid hok; have HF := Lib.hid hfew; clear hok hfew
 rcases may_cases en ss.length with hc | hc | hc | hc
 · (
 have q1 : decide (en < 0) = true := decide_eq_true hc
 have HC := Lib.hid hc; clear hc
 refine Fact.sq fun K1 hK1 => ?_
 refine rg ?_
 refine fp fun K Z => ?_
 go_simp
 apply Z.out; clear Z K
 refine fp fun K Z => ?_
 go_simp
 apply Z.out; clear Z K
 refine Fact.z hf fun fr1 hf1 hT => ?_
 have hKp : _ ∧ _ := ⟨hT 0, hT 3⟩
 simp (decide := true) only [Fact.G, hf.size, reduceIte, s0] at hKp
 replace hf := hf1; clear hT hf1 s0 s1
 obtain ⟨s0, s3⟩ := hKp
 obtain ⟨W0, hW0⟩ : ∃ W0, w.alloc (.cells #[.slice A ss.length cc, .int .u64 init] 25) = W0 := ⟨_, rfl⟩
 try rw [hW0]
 obtain ⟨hb0, c0, c1, -, -⟩ := box2 hW0
 clear hW0
 have hr0 := hrs.later hb0
 clear hrs
 refine nx (hK1 _ _ ?_)
 refine Fact.sq fun K2 hK2 => ?_
 refine Fact.sq fun K3 hK3 => ?_
 refine rg ?_
 have b8 := hf.b 8
 have b9 := hf.b 9
 have b10 := hf.b 10
 have b11 := hf.b 11
 have b12 := hf.b 12
 have b13 := hf.b 13
 have b14 := hf.b 14
 have b15 := hf.b 15
 have b16 := hf.b 16
 have b17 := hf.b 17
 have b18 := hf.b 18
 refine fp fun K Z => ?_
 go_simp
 apply Z.out; clear Z K
 refine fp fun K Z => ?_
 go_simp
 apply Z.out; clear Z K
 refine fp fun K Z => ?_
 go_simp
 apply Z.out; clear Z K
 refine sk 2 10 false ?_ ?_
 · (
 simp (decide := true) only [Fact.G, reduceIte, hf.size, q1, Fact.N])
 refine sk 2 10 false ?_ ?_
 · (
 simp (decide := true) only [Fact.G, reduceIte, hf.size, q1, Fact.N])
 refine fp fun K Z => ?_
 go_simp
 apply Z.out; clear Z K
 refine fp fun K Z => ?_
 go_simp
 apply Z.out; clear Z K
 refine sk 6 14 false ?_ ?_
 · (
 simp (decide := true) only [Fact.G, reduceIte, hf.size, q1, Fact.N])
 refine sk 6 14 false ?_ ?_
 · (
 simp (decide := true) only [Fact.G, reduceIte, hf.size, q1, Fact.N])
 refine sk 6 14 false ?_ ?_
 · (
 simp (decide := true) only [Fact.G, reduceIte, hf.size, q1, Fact.N])
 refine sk 6 14 false ?_ ?_
 · (
 simp (decide := true) only [Fact.G, reduceIte, hf.size, q1, Fact.N])
 refine fp fun K Z => ?_
 go_simp
 apply Z.out; clear Z K
 refine Fact.z hf fun fr1 hf1 hT => ?_
 have hKp : _ ∧ _ := ⟨hT 3, hT 19⟩
 simp (decide := true) only [Fact.G, hf.size, reduceIte, s3] at hKp
 replace hf := hf1; clear hT hf1 s0 s3 b8 b9 b10 b11 b12 b13 b14 b15 b16 b17 b18
 obtain ⟨s3, s19⟩ := hKp
 refine nx (hK3 _ _ ?_)
 refine Fact.cond_t s19 ?_
 have hbad : mayF en ss = false := by unfold mayF; have := HC.out; rw [decide_eq_false (show ¬ 0 ≤ en by omega)]; rfl
 have HBAD := Lib.hid hbad; clear hbad
 refine Fact.sq fun K4 hK4 => ?_
 refine rg ?_
 refine fp fun K Z => ?_
 go_simp
 apply Z.out; clear Z K
 refine Fact.z hf fun fr1 hf1 hT => ?_
 have hKp := hT 4
 simp (decide := true) only [Fact.G, hf.size, reduceIte] at hKp
 replace hf := hf1; clear hT hf1 s3 s19
 have s4 := hKp; clear hKp
 refine nx (hK4 _ _ ?_)
 refine wp_ret ?_
 refine Fact.then_ret ?_
 exact Fact.ret1 rfl hf s4 ⟨by rw [HBAD.out], hb0⟩)
 · (
 have q1 : decide (en < 0) = false := decide_eq_false (by omega)
 have q2 : decide ((100000 : Int) < en) = true := decide_eq_true hc.2
 have HC := Lib.hid hc; clear hc
 refine Fact.sq fun K5 hK5 => ?_
 refine rg ?_
 refine fp fun K Z => ?_
 go_simp
 apply Z.out; clear Z K
 refine fp fun K Z => ?_
 go_simp
 apply Z.out; clear Z K
 refine Fact.z hf fun fr1 hf1 hT => ?_
 have hKp : _ ∧ _ := ⟨hT 0, hT 3⟩
 simp (decide := true) only [Fact.G, hf.size, reduceIte, s0] at hKp
 replace hf := hf1; clear hT hf1 s0 s1
 obtain ⟨s0, s3⟩ := hKp
 obtain ⟨W0, hW0⟩ : ∃ W0, w.alloc (.cells #[.slice A ss.length cc, .int .u64 init] 25) = W0 := ⟨_, rfl⟩
 try rw [hW0]
 obtain ⟨hb0, c0, c1, -, -⟩ := box2 hW0
 clear hW0
 have hr0 := hrs.later hb0
 clear hrs
 refine nx (hK5 _ _ ?_)
 refine Fact.sq fun K6 hK6 => ?_
 refine Fact.sq fun K7 hK7 => ?_
 refine rg ?_
 have b8 := hf.b 8
 have b9 := hf.b 9
 have b10 := hf.b 10
 have b11 := hf.b 11
 have b12 := hf.b 12
 have b13 := hf.b 13
 have b14 := hf.b 14
 have b15 := hf.b 15
 have b16 := hf.b 16
 have b17 := hf.b 17
 have b18 := hf.b 18
 refine fp fun K Z => ?_
 go_simp
 apply Z.out; clear Z K
 refine fp fun K Z => ?_
 go_simp
 apply Z.out; clear Z K
 refine fp fun K Z => ?_
 go_simp
 apply Z.out; clear Z K
 refine og 2 10 false ?_ fun K Z => ?_
 · (
 simp (decide := true) only [Fact.G, reduceIte, hf.size, q1, q2])
 go_simp
 apply Z.out; clear Z K
 refine og 2 10 false ?_ fun K Z => ?_
 · (
 simp (decide := true) only [Fact.G, reduceIte, hf.size, q1, q2])
 go_simp
 apply Z.out; clear Z K
 refine fp fun K Z => ?_
 go_simp
 apply Z.out; clear Z K
 refine fp fun K Z => ?_
 go_simp
 apply Z.out; clear Z K
 refine sk 6 14 false ?_ ?_
 · (
 simp (decide := true) only [Fact.G, reduceIte, hf.size, q1, q2, Fact.N])
 refine sk 6 14 false ?_ ?_
 · (
 simp (decide := true) only [Fact.G, reduceIte, hf.size, q1, q2, Fact.N])
 refine sk 6 14 false ?_ ?_
 · (
 simp (decide := true) only [Fact.G, reduceIte, hf.size, q1, q2, Fact.N])
 refine sk 6 14 false ?_ ?_
 · (
 simp (decide := true) only [Fact.G, reduceIte, hf.size, q1, q2, Fact.N])
 refine fp fun K Z => ?_
 go_simp
 apply Z.out; clear Z K
 refine Fact.z hf fun fr1 hf1 hT => ?_
 have hKp : _ ∧ _ := ⟨hT 3, hT 19⟩
 simp (decide := true) only [Fact.G, hf.size, reduceIte, s3] at hKp
 replace hf := hf1; clear hT hf1 s0 s3 b8 b9 b10 b11 b12 b13 b14 b15 b16 b17 b18
 obtain ⟨s3, s19⟩ := hKp
 refine nx (hK7 _ _ ?_)
 refine Fact.cond_t s19 ?_
 have hbad : mayF en ss = false := by unfold mayF; have := HC.out; rw [decide_eq_true (show 0 ≤ en by omega), decide_eq_false (show ¬ en ≤ 100000 by omega)]; rfl
 have HBAD := Lib.hid hbad; clear hbad
 refine Fact.sq fun K8 hK8 => ?_
 refine rg ?_
 refine fp fun K Z => ?_
 go_simp
 apply Z.out; clear Z K
 refine Fact.z hf fun fr1 hf1 hT => ?_
 have hKp := hT 4
 simp (decide := true) only [Fact.G, hf.size, reduceIte] at hKp
 replace hf := hf1; clear hT hf1 s3 s19
 have s4 := hKp; clear hKp
 refine nx (hK8 _ _ ?_)
 refine wp_ret ?_
 refine Fact.then_ret ?_
 exact Fact.ret1 rfl hf s4 ⟨by rw [HBAD.out], hb0⟩)
 · (
 have q1 : decide (en < 0) = false := decide_eq_false (by omega)
 have q2 : decide ((100000 : Int) < en) = false := decide_eq_false (by omega)
 have q3 : ((ss.length : Int) == 0) = true := beq_iff_eq.2 (by omega)
 have HC := Lib.hid hc; clear hc
 refine Fact.sq fun K9 hK9 => ?_
 refine rg ?_
 refine fp fun K Z => ?_
 go_simp
 apply Z.out; clear Z K
 refine fp fun K Z => ?_
 go_simp
 apply Z.out; clear Z K
 refine Fact.z hf fun fr1 hf1 hT => ?_
 have hKp : _ ∧ _ := ⟨hT 0, hT 3⟩
 simp (decide := true) only [Fact.G, hf.size, reduceIte, s0] at hKp
 replace hf := hf1; clear hT hf1 s0 s1
 obtain ⟨s0, s3⟩ := hKp
 obtain ⟨W0, hW0⟩ : ∃ W0, w.alloc (.cells #[.slice A ss.length cc, .int .u64 init] 25) = W0 := ⟨_, rfl⟩
 try rw [hW0]
 obtain ⟨hb0, c0, c1, -, -⟩ := box2 hW0
 clear hW0
 have hr0 := hrs.later hb0
 clear hrs
 refine nx (hK9 _ _ ?_)
 refine Fact.sq fun K10 hK10 => ?_
 refine Fact.sq fun K11 hK11 => ?_
 refine rg ?_
 have b8 := hf.b 8
 have b9 := hf.b 9
 have b10 := hf.b 10
 have b11 := hf.b 11
 have b12 := hf.b 12
 have b13 := hf.b 13
 have b14 := hf.b 14
 have b15 := hf.b 15
 have b16 := hf.b 16
 have b17 := hf.b 17
 have b18 := hf.b 18
 refine fp fun K Z => ?_
 go_simp
 apply Z.out; clear Z K
 refine fp fun K Z => ?_
 go_simp
 apply Z.out; clear Z K
 refine fp fun K Z => ?_
 go_simp
 apply Z.out; clear Z K
 refine og 2 10 false ?_ fun K Z => ?_
 · (
 simp (decide := true) only [Fact.G, reduceIte, hf.size, q1, q2, q3])
 go_simp
 apply Z.out; clear Z K
 refine og 2 10 false ?_ fun K Z => ?_
 · (
 simp (decide := true) only [Fact.G, reduceIte, hf.size, q1, q2, q3])
 go_simp
 apply Z.out; clear Z K
 refine fp fun K Z => ?_
 go_simp
 apply Z.out; clear Z K
 refine fp fun K Z => ?_
 go_simp
 apply Z.out; clear Z K
 refine og 6 14 false ?_ fun K Z => ?_
 · (
 simp (decide := true) only [Fact.G, reduceIte, hf.size, q1, q2, q3])
 go_simp
 apply Z.out; clear Z K
 refine og 6 14 false ?_ fun K Z => ?_
 · (
 simp (decide := true) only [Fact.G, reduceIte, hf.size, q1, q2, q3])
 go_simp
 apply Z.out; clear Z K
 refine og 6 14 false ?_ fun K Z => ?_
 · (
 simp (decide := true) only [Fact.G, reduceIte, hf.size, q1, q2, q3])
 go_simp
 apply Z.out; clear Z K
 refine og 6 14 false ?_ fun K Z => ?_
 · (
 simp (decide := true) only [Fact.G, reduceIte, hf.size, q1, q2, q3])
 go_simp
 apply Z.out; clear Z K
 refine fp fun K Z => ?_
 go_simp
 apply Z.out; clear Z K
 refine Fact.z hf fun fr1 hf1 hT => ?_
 have hKp : _ ∧ _ := ⟨hT 3, hT 19⟩
 simp (decide := true) only [Fact.G, hf.size, reduceIte, s3] at hKp
 replace hf := hf1; clear hT hf1 s0 s3 b8 b9 b10 b11 b12 b13 b14 b15 b16 b17 b18
 obtain ⟨s3, s19⟩ := hKp
 refine nx (hK11 _ _ ?_)
 refine Fact.cond_t s19 ?_
 have hbad : mayF en ss = false := by unfold mayF; have := HC.out; rw [decide_eq_false (show ¬ 0 < ss.length by omega)]; simp
 have HBAD := Lib.hid hbad; clear hbad
 refine Fact.sq fun K12 hK12 => ?_
 refine rg ?_
 refine fp fun K Z => ?_
 go_simp
 apply Z.out; clear Z K
 refine Fact.z hf fun fr1 hf1 hT => ?_
 have hKp := hT 4
 simp (decide := true) only [Fact.G, hf.size, reduceIte] at hKp
 replace hf := hf1; clear hT hf1 s3 s19
 have s4 := hKp; clear hKp
 refine nx (hK12 _ _ ?_)
 refine wp_ret ?_
 refine Fact.then_ret ?_
 exact Fact.ret1 rfl hf s4 ⟨by rw [HBAD.out], hb0⟩)
 · (
 have q1 : decide (en < 0) = false := decide_eq_false (by omega)
 have q2 : decide ((100000 : Int) < en) = false := decide_eq_false (by omega)
 have q3 : ((ss.length : Int) == 0) = false := beq_eq_false_iff_ne.2 (by omega)
 have HC := Lib.hid hc; clear hc
 refine Fact.sq fun K13 hK13 => ?_
 refine rg ?_
 refine fp fun K Z => ?_
 go_simp
 apply Z.out; clear Z K
 refine fp fun K Z => ?_
 go_simp
 apply Z.out; clear Z K
 refine Fact.z hf fun fr1 hf1 hT => ?_
 have hKp : _ ∧ _ := ⟨hT 0, hT 3⟩
 simp (decide := true) only [Fact.G, hf.size, reduceIte, s0] at hKp
 replace hf := hf1; clear hT hf1 s0 s1
 obtain ⟨s0, s3⟩ := hKp
 obtain ⟨W0, hW0⟩ : ∃ W0, w.alloc (.cells #[.slice A ss.length cc, .int .u64 init] 25) = W0 := ⟨_, rfl⟩
 try rw [hW0]
 obtain ⟨hb0, c0, c1, -, -⟩ := box2 hW0
 clear hW0
 have hr0 := hrs.later hb0
 clear hrs
 refine nx (hK13 _ _ ?_)
 refine Fact.sq fun K14 hK14 => ?_
 refine Fact.sq fun K15 hK15 => ?_
 refine rg ?_
 have b8 := hf.b 8
 have b9 := hf.b 9
 have b10 := hf.b 10
 have b11 := hf.b 11
 have b12 := hf.b 12
 have b13 := hf.b 13
 have b14 := hf.b 14
 have b15 := hf.b 15
 have b16 := hf.b 16
 have b17 := hf.b 17
 have b18 := hf.b 18
 refine fp fun K Z => ?_
 go_simp
 apply Z.out; clear Z K
 refine fp fun K Z => ?_
 go_simp
 apply Z.out; clear Z K
 refine fp fun K Z => ?_
 go_simp
 apply Z.out; clear Z K
 refine og 2 10 false ?_ fun K Z => ?_
 · (
 simp (decide := true) only [Fact.G, reduceIte, hf.size, q1, q2, q3])
 go_simp
 apply Z.out; clear Z K
 refine og 2 10 false ?_ fun K Z => ?_
 · (
 simp (decide := true) only [Fact.G, reduceIte, hf.size, q1, q2, q3])
 go_simp
 apply Z.out; clear Z K
 refine fp fun K Z => ?_
 go_simp
 apply Z.out; clear Z K
 refine fp fun K Z => ?_
 go_simp
 apply Z.out; clear Z K
 refine og 6 14 false ?_ fun K Z => ?_
 · (
 simp (decide := true) only [Fact.G, reduceIte, hf.size, q1, q2, q3])
 go_simp
 apply Z.out; clear Z K
 refine og 6 14 false ?_ fun K Z => ?_
 · (
 simp (decide := true) only [Fact.G, reduceIte, hf.size, q1, q2, q3])
 go_simp
 apply Z.out; clear Z K
 refine og 6 14 false ?_ fun K Z => ?_
 · (
 simp (decide := true) only [Fact.G, reduceIte, hf.size, q1, q2, q3])
 go_simp
 apply Z.out; clear Z K
 refine og 6 14 false ?_ fun K Z => ?_
 · (
 simp (decide := true) only [Fact.G, reduceIte, hf.size, q1, q2, q3])
 go_simp
 apply Z.out; clear Z K
 refine fp fun K Z => ?_
 go_simp
 apply Z.out; clear Z K
 refine Fact.z hf fun fr1 hf1 hT => ?_
 have hKp : _ ∧ _ := ⟨hT 3, hT 19⟩
 simp (decide := true) only [Fact.G, hf.size, reduceIte, s3] at hKp
 replace hf := hf1; clear hT hf1 s0 s3 b8 b9 b10 b11 b12 b13 b14 b15 b16 b17 b18
 obtain ⟨s3, s19⟩ := hKp
 refine nx (hK15 _ _ ?_)
 refine Fact.cond_f s19 ?_
 have hen : mayF en ss = mayL 0 ss := by unfold mayF; have := HC.out; rw [decide_eq_true (show 0 ≤ en by omega), decide_eq_true (show en ≤ 100000 by omega), decide_eq_true (show 0 < ss.length by omega)]; rfl
 have HM0 := Lib.hid hen; clear hen q1 q2 q3
 refine wp_skip ?_
 refine nx (hK14 _ _ ?_)
 refine Fact.sq fun K16 hK16 => ?_
 refine Fact.sq fun K17 hK17 => ?_
 refine rg ?_
 refine fp fun K Z => ?_
 go_simp
 apply Z.out; clear Z K
 refine Fact.z hf fun fr1 hf1 hT => ?_
 have hKp : _ ∧ _ := ⟨hT 3, hT 5⟩
 simp (decide := true) only [Fact.G, hf.size, reduceIte, s3] at hKp
 replace hf := hf1; clear hT hf1 s3 s19
 obtain ⟨s3, s5⟩ := hKp
 refine nx (hK17 _ _ ?_)
 refine wp_block ?_
 refine wp_loop_ghost (fun gk fr wr => ∃ (i : Nat), gk = ss.length - i ∧ i ≤ ss.length ∧ Fact.Fr 70 fr ∧ fr.tmps[3]? = some (.pointer (some ⟨w.heap.size, 0, none⟩)) ∧ fr.tmps[5]? = some (.int .i64 i) ∧ mayL 0 ss = mayL i (ss.drop i) ∧ Below W0.heap.size W0 wr) (ss.length) ?_ ?_
 · (
 exact ⟨0, rfl, Nat.zero_le _, hf, s3, s5, rfl, Below.refl _ _⟩)
 · (
 clear hf s3 s5
 rintro gk fr wr ⟨i, hk, hi, hf, s3, s5, hfm, hb⟩
 have HK := Lib.hid hk; have HM := Lib.hid hfm; clear hk hfm
 have e0 := cL hb c0
 refine Fact.sq fun K18 hK18 => ?_
 refine Fact.sq fun K19 hK19 => ?_
 refine rg ?_
 have b20 := hf.b 20
 have b21 := hf.b 21
 have b22 := hf.b 22
 have b23 := hf.b 23
 refine fp fun K Z => ?_
 go_simp
 apply Z.out; clear Z K
 refine fp fun K Z => ?_
 go_simp
 apply Z.out; clear Z K
 refine fp fun K Z => ?_
 go_simp
 apply Z.out; clear Z K
 refine fp fun K Z => ?_
 go_simp
 apply Z.out; clear Z K
 refine fp fun K Z => ?_
 go_simp
 apply Z.out; clear Z K
 refine Fact.z hf fun fr1 hf1 hT => ?_
 have hKp : _ ∧ _ ∧ _ := ⟨hT 3, hT 5, hT 24⟩
 simp (decide := true) only [Fact.G, hf.size, reduceIte, s3, s5] at hKp
 replace hf := hf1; clear hT hf1 s3 s5 b20 b21 b22 b23
 obtain ⟨s3, s5, s24⟩ := hKp
 refine nx (hK19 _ _ ?_)
 refine Fact.cond_s s24 (fun hq => ?_) (fun hq => ?_)
 · (
 have hlt : i < ss.length := by have h9 := of_decide_eq_true hq; omega
 have HQ := Lib.hid hq; clear hq
 obtain ⟨s, his⟩ : ∃ s, ss[i]? = some s := ⟨_, List.getElem?_eq_getElem hlt⟩
 obtain ⟨b, off, av, rfl, hat⟩ := (hr0.later hb).at_ his
 have d0 := hat.c0; have d1 := hat.c1; have d2 := hat.c2
 have hra := hat.arcs
 obtain ⟨A2, c2, rfl, _⟩ := hat.arcs.form
 have hos := HO.out s (List.mem_of_getElem? his)
 have hst := mayL_step his
 have HS := Lib.hid his; have HST := Lib.hid hst; clear his hst hat
 have hal := hos.2.1
 refine wp_skip ?_
 refine nx (hK18 _ _ ?_)
 refine Fact.sq fun K20 hK20 => ?_
 refine wp_block ?_
 refine Fact.sq fun K21 hK21 => ?_
 refine rg ?_
 have b27 := hf.b 27
 have b28 := hf.b 28
 have b29 := hf.b 29
 have b30 := hf.b 30
 have b31 := hf.b 31
 have b6 := hf.b 6
 refine fp fun K Z => ?_
 go_simp
 apply Z.out; clear Z K
 refine fp fun K Z => ?_
 go_simp
 apply Z.out; clear Z K
 refine fp fun K Z => ?_
 go_simp
 apply Z.out; clear Z K
 refine fp fun K Z => ?_
 go_simp
 try rw [if_pos (by omega)]
 apply Z.out; clear Z K
 refine fp fun K Z => ?_
 go_simp
 apply Z.out; clear Z K
 refine fp fun K Z => ?_
 go_simp
 apply Z.out; clear Z K
 refine fp fun K Z => ?_
 go_simp
 apply Z.out; clear Z K
 refine Fact.z hf fun fr1 hf1 hT => ?_
 have hKp : _ ∧ _ ∧ _ := ⟨hT 3, hT 5, hT 6⟩
 simp (decide := true) only [Fact.G, hf.size, reduceIte, s3, s5] at hKp
 replace hf := hf1; clear hT hf1 s3 s5 s24 b27 b28 b29 b30 b31 b6
 obtain ⟨s3, s5, s6⟩ := hKp
 obtain ⟨W5, hW5⟩ : ∃ W0, wr.alloc (.cells #[.slice A2 s.arcs.length c2, .bool s.final, .int .u64 s.out] 64) = W0 := ⟨_, rfl⟩
 try rw [hW5]
 obtain ⟨hb5, x0, x1, x2, -, -⟩ := box3 hW5
 clear hW5
 clear d0 d1 d2
 have hra5 := hra.later hb5
 clear hra
 have hbr0 := hb.trans (hb5.mono hb.size)
 have hbz1 := hb0.trans (hbr0.mono hb0.size)
 replace e0 := cL hb5 e0
 refine nx (hK21 _ _ ?_)
 refine Fact.seq_meet (fun fr wq => Fact.Fr 70 fr ∧ fr.tmps[3]? = some (.pointer (some ⟨w.heap.size, 0, none⟩)) ∧ fr.tmps[5]? = some (.int .i64 i) ∧ fr.tmps[6]? = some (.pointer (some ⟨wr.heap.size, 0, none⟩)) ∧ wq = W5 ∧ (decide (s.arcs.length ≤ 256) && (s.final || decide (s.out = 0))) = true) ?_ ?_
 · (
 rcases fin_cases s with hfin | hfin | hfin
 · (
 have q0 : decide ((256 : Int) < (s.arcs.length : Int)) = true := decide_eq_true (by omega)
 have HFI := Lib.hid hfin; clear hfin
 refine Fact.sq fun K22 hK22 => ?_
 refine rg ?_
 have b32 := hf.b 32
 have b33 := hf.b 33
 have b34 := hf.b 34
 have b35 := hf.b 35
 have b36 := hf.b 36
 have b37 := hf.b 37
 have b38 := hf.b 38
 have b39 := hf.b 39
 have b40 := hf.b 40
 have b41 := hf.b 41
 have b42 := hf.b 42
 have b43 := hf.b 43
 have b44 := hf.b 44
 refine fp fun K Z => ?_
 go_simp
 apply Z.out; clear Z K
 refine fp fun K Z => ?_
 go_simp
 apply Z.out; clear Z K
 refine fp fun K Z => ?_
 go_simp
 apply Z.out; clear Z K
 refine fp fun K Z => ?_
 go_simp
 apply Z.out; clear Z K
 refine fp fun K Z => ?_
 go_simp
 apply Z.out; clear Z K
 refine sk 4 36 false ?_ ?_
 · (
 simp (decide := true) only [Fact.G, reduceIte, hf.size, q0, Fact.N])
 refine sk 4 36 false ?_ ?_
 · (
 simp (decide := true) only [Fact.G, reduceIte, hf.size, q0, Fact.N])
 refine sk 4 36 false ?_ ?_
 · (
 simp (decide := true) only [Fact.G, reduceIte, hf.size, q0, Fact.N])
 refine sk 4 36 false ?_ ?_
 · (
 simp (decide := true) only [Fact.G, reduceIte, hf.size, q0, Fact.N])
 refine sku 8 40 true ?_ ?_
 · (
 simp (decide := true) only [Fact.G, reduceIte, hf.size, q0, Fact.N])
 refine sku 8 40 true ?_ ?_
 · (
 simp (decide := true) only [Fact.G, reduceIte, hf.size, q0, Fact.N])
 refine sku 8 40 true ?_ ?_
 · (
 simp (decide := true) only [Fact.G, reduceIte, hf.size, q0, Fact.N])
 refine sk 4 36 false ?_ ?_
 · (
 simp (decide := true) only [Fact.G, reduceIte, hf.size, q0, Fact.N])
 refine fp fun K Z => ?_
 go_simp
 apply Z.out; clear Z K
 refine Fact.z hf fun fr1 hf1 hT => ?_
 have hKp : _ ∧ _ ∧ _ ∧ _ := ⟨hT 3, hT 5, hT 6, hT 45⟩
 simp (decide := true) only [Fact.G, hf.size, reduceIte, s3, s5, s6] at hKp
 replace hf := hf1; clear hT hf1 s3 s5 s6 b32 b33 b34 b35 b36 b37 b38 b39 b40 b41 b42 b43 b44
 obtain ⟨s3, s5, s6, s45⟩ := hKp
 refine nx (hK22 _ _ ?_)
 refine Fact.cond_t s45 ?_
 have hbad : mayF en ss = false := by rw [HM0.out, HM.out, HST.out]; have := HFI.out; rw [decide_eq_false (show ¬ s.arcs.length ≤ 256 by omega)]; rfl
 have HBAD := Lib.hid hbad; clear hbad
 refine Fact.sq fun K23 hK23 => ?_
 refine rg ?_
 refine fp fun K Z => ?_
 go_simp
 apply Z.out; clear Z K
 refine Fact.z hf fun fr1 hf1 hT => ?_
 have hKp := hT 4
 simp (decide := true) only [Fact.G, hf.size, reduceIte] at hKp
 replace hf := hf1; clear hT hf1 s3 s5 s6 s45
 have s4 := hKp; clear hKp
 refine nx (hK23 _ _ ?_)
 refine wp_ret ?_
 refine Fact.then_ret ?_
 refine Fact.block_ret ?_
 refine Fact.then_ret ?_
 refine Fact.then_ret ?_
 refine Fact.block_ret ?_
 refine Fact.then_ret ?_
 exact Fact.ret1 rfl hf s4 ⟨by rw [HBAD.out], hbz1⟩)
 · (
 have q0 : decide ((256 : Int) < (s.arcs.length : Int)) = false := decide_eq_false (by omega)
 have q1 := hfin.2
 have HFI := Lib.hid hfin; clear hfin
 refine Fact.sq fun K24 hK24 => ?_
 refine rg ?_
 have b32 := hf.b 32
 have b33 := hf.b 33
 have b34 := hf.b 34
 have b35 := hf.b 35
 have b36 := hf.b 36
 have b37 := hf.b 37
 have b38 := hf.b 38
 have b39 := hf.b 39
 have b40 := hf.b 40
 have b41 := hf.b 41
 have b42 := hf.b 42
 have b43 := hf.b 43
 have b44 := hf.b 44
 refine fp fun K Z => ?_
 go_simp
 apply Z.out; clear Z K
 refine fp fun K Z => ?_
 go_simp
 apply Z.out; clear Z K
 refine fp fun K Z => ?_
 go_simp
 apply Z.out; clear Z K
 refine fp fun K Z => ?_
 go_simp
 apply Z.out; clear Z K
 refine fp fun K Z => ?_
 go_simp
 apply Z.out; clear Z K
 refine og 4 36 false ?_ fun K Z => ?_
 · (
 simp (decide := true) only [Fact.G, reduceIte, hf.size, q0, q1, Fact.N])
 go_simp
 apply Z.out; clear Z K
 refine og 4 36 false ?_ fun K Z => ?_
 · (
 simp (decide := true) only [Fact.G, reduceIte, hf.size, q0, q1, Fact.N])
 go_simp
 apply Z.out; clear Z K
 refine og 4 36 false ?_ fun K Z => ?_
 · (
 simp (decide := true) only [Fact.G, reduceIte, hf.size, q0, q1, Fact.N])
 go_simp
 apply Z.out; clear Z K
 refine og 4 36 false ?_ fun K Z => ?_
 · (
 simp (decide := true) only [Fact.G, reduceIte, hf.size, q0, q1, Fact.N])
 go_simp
 apply Z.out; clear Z K
 refine sk 8 40 true ?_ ?_
 · (
 simp (decide := true) only [Fact.G, reduceIte, hf.size, q0, q1, Fact.N])
 refine sk 8 40 true ?_ ?_
 · (
 simp (decide := true) only [Fact.G, reduceIte, hf.size, q0, q1, Fact.N])
 refine sk 8 40 true ?_ ?_
 · (
 simp (decide := true) only [Fact.G, reduceIte, hf.size, q0, q1, Fact.N])
 refine og 4 36 false ?_ fun K Z => ?_
 · (
 simp (decide := true) only [Fact.G, reduceIte, hf.size, q0, q1, Fact.N])
 go_simp
 apply Z.out; clear Z K
 refine fp fun K Z => ?_
 go_simp
 apply Z.out; clear Z K
 refine Fact.z hf fun fr1 hf1 hT => ?_
 have hKp : _ ∧ _ ∧ _ ∧ _ := ⟨hT 3, hT 5, hT 6, hT 45⟩
 simp (decide := true) only [Fact.G, hf.size, reduceIte, s3, s5, s6] at hKp
 replace hf := hf1; clear hT hf1 s3 s5 s6 b32 b33 b34 b35 b36 b37 b38 b39 b40 b41 b42 b43 b44
 obtain ⟨s3, s5, s6, s45⟩ := hKp
 refine nx (hK24 _ _ ?_)
 refine Fact.cond_f s45 ?_
 have hfo : (decide (s.arcs.length ≤ 256) && (s.final || decide (s.out = 0))) = true := by have := HFI.out; rw [decide_eq_true this.1, this.2]; rfl
 have HFO := Lib.hid hfo; clear hfo
 refine wp_skip ?_
 refine Fact.then_normal ?_
 exact ⟨hf, s3, s5, s6, rfl, HFO.out⟩)
 · (
 have q0 : decide ((256 : Int) < (s.arcs.length : Int)) = false := decide_eq_false (by omega)
 have q1 := hfin.2
 have HFI := Lib.hid hfin; clear hfin
 refine Fact.sq fun K25 hK25 => ?_
 refine rg ?_
 have b32 := hf.b 32
 have b33 := hf.b 33
 have b34 := hf.b 34
 have b35 := hf.b 35
 have b36 := hf.b 36
 have b37 := hf.b 37
 have b38 := hf.b 38
 have b39 := hf.b 39
 have b40 := hf.b 40
 have b41 := hf.b 41
 have b42 := hf.b 42
 have b43 := hf.b 43
 have b44 := hf.b 44
 refine fp fun K Z => ?_
 go_simp
 apply Z.out; clear Z K
 refine fp fun K Z => ?_
 go_simp
 apply Z.out; clear Z K
 refine fp fun K Z => ?_
 go_simp
 apply Z.out; clear Z K
 refine fp fun K Z => ?_
 go_simp
 apply Z.out; clear Z K
 refine fp fun K Z => ?_
 go_simp
 apply Z.out; clear Z K
 refine og 4 36 false ?_ fun K Z => ?_
 · (
 simp (decide := true) only [Fact.G, reduceIte, hf.size, q0, q1, Fact.N])
 go_simp
 apply Z.out; clear Z K
 refine og 4 36 false ?_ fun K Z => ?_
 · (
 simp (decide := true) only [Fact.G, reduceIte, hf.size, q0, q1, Fact.N])
 go_simp
 apply Z.out; clear Z K
 refine og 4 36 false ?_ fun K Z => ?_
 · (
 simp (decide := true) only [Fact.G, reduceIte, hf.size, q0, q1, Fact.N])
 go_simp
 apply Z.out; clear Z K
 refine og 4 36 false ?_ fun K Z => ?_
 · (
 simp (decide := true) only [Fact.G, reduceIte, hf.size, q0, q1, Fact.N])
 go_simp
 apply Z.out; clear Z K
 refine og 8 40 true ?_ fun K Z => ?_
 · (
 simp (decide := true) only [Fact.G, reduceIte, hf.size, q0, q1, Fact.N])
 go_simp
 apply Z.out; clear Z K
 refine og 8 40 true ?_ fun K Z => ?_
 · (
 simp (decide := true) only [Fact.G, reduceIte, hf.size, q0, q1, Fact.N])
 go_simp
 apply Z.out; clear Z K
 refine og 8 40 true ?_ fun K Z => ?_
 · (
 simp (decide := true) only [Fact.G, reduceIte, hf.size, q0, q1, Fact.N])
 go_simp
 apply Z.out; clear Z K
 refine og 4 36 false ?_ fun K Z => ?_
 · (
 simp (decide := true) only [Fact.G, reduceIte, hf.size, q0, q1, Fact.N])
 go_simp
 apply Z.out; clear Z K
 refine fp fun K Z => ?_
 go_simp
 apply Z.out; clear Z K
 refine Fact.z hf fun fr1 hf1 hT => ?_
 have hKp : _ ∧ _ ∧ _ ∧ _ := ⟨hT 3, hT 5, hT 6, hT 45⟩
 simp (decide := true) only [Fact.G, hf.size, reduceIte, s3, s5, s6] at hKp
 replace hf := hf1; clear hT hf1 s3 s5 s6 b32 b33 b34 b35 b36 b37 b38 b39 b40 b41 b42 b43 b44
 obtain ⟨s3, s5, s6, s45⟩ := hKp
 refine nx (hK25 _ _ ?_)
 refine Fact.cond_s s45 (fun hqo => ?_) (fun hqo => ?_)
 · (
 have ho0 : s.out ≠ 0 := by simpa using hqo
 have HO0 := Lib.hid ho0; clear ho0 hqo
 have hbad : mayF en ss = false := by rw [HM0.out, HM.out, HST.out, HFI.out.2, decide_eq_false HO0.out]; simp
 have HBAD := Lib.hid hbad; clear hbad
 refine Fact.sq fun K26 hK26 => ?_
 refine rg ?_
 refine fp fun K Z => ?_
 go_simp
 apply Z.out; clear Z K
 refine Fact.z hf fun fr1 hf1 hT => ?_
 have hKp := hT 4
 simp (decide := true) only [Fact.G, hf.size, reduceIte] at hKp
 replace hf := hf1; clear hT hf1 s3 s5 s6 s45
 have s4 := hKp; clear hKp
 refine nx (hK26 _ _ ?_)
 refine wp_ret ?_
 refine Fact.then_ret ?_
 refine Fact.block_ret ?_
 refine Fact.then_ret ?_
 refine Fact.then_ret ?_
 refine Fact.block_ret ?_
 refine Fact.then_ret ?_
 exact Fact.ret1 rfl hf s4 ⟨by rw [HBAD.out], hbz1⟩)
 · (
 have ho0 : s.out = 0 := by simpa using hqo
 have HO0 := Lib.hid ho0; clear ho0 hqo
 have hfo : (decide (s.arcs.length ≤ 256) && (s.final || decide (s.out = 0))) = true := by have := HFI.out; rw [decide_eq_true this.1, this.2, decide_eq_true HO0.out]; rfl
 have HFO := Lib.hid hfo; clear hfo
 refine wp_skip ?_
 refine Fact.then_normal ?_
 exact ⟨hf, s3, s5, s6, rfl, HFO.out⟩)))
 · (
 clear hf s3 s5 s6
 rintro fr wq ⟨hf, s3, s5, s6, hw, hfo⟩
 subst wq
 have HFO := Lib.hid hfo; clear hfo
 refine Fact.sq fun K27 hK27 => ?_
 refine rg ?_
 refine fp fun K Z => ?_
 go_simp
 apply Z.out; clear Z K
 refine Fact.z hf fun fr1 hf1 hT => ?_
 have hKp : _ ∧ _ ∧ _ ∧ _ := ⟨hT 3, hT 5, hT 6, hT 7⟩
 simp (decide := true) only [Fact.G, hf.size, reduceIte, s3, s5, s6] at hKp
 replace hf := hf1; clear hT hf1 s3 s5 s6
 obtain ⟨s3, s5, s6, s7⟩ := hKp
 refine nx (hK27 _ _ ?_)
 refine wp_block ?_
 refine wp_loop_ghost (fun gk2 fr wr2 => ∃ (k : Nat), gk2 = s.arcs.length - k ∧ k ≤ s.arcs.length ∧ Fact.Fr 70 fr ∧ fr.tmps[3]? = some (.pointer (some ⟨w.heap.size, 0, none⟩)) ∧ fr.tmps[5]? = some (.int .i64 i) ∧ fr.tmps[6]? = some (.pointer (some ⟨wr.heap.size, 0, none⟩)) ∧ fr.tmps[7]? = some (.int .i64 k) ∧ okTo i s.arcs = okTo i (s.arcs.drop k) ∧ Below W5.heap.size W5 wr2) (s.arcs.length) ?_ ?_
 · (
 exact ⟨0, rfl, Nat.zero_le _, hf, s3, s5, s6, s7, rfl, Below.refl _ _⟩)
 · (
 clear hf s3 s5 s6 s7
 rintro gk2 fr wr2 ⟨k, hk2, hki, hf, s3, s5, s6, s7, hoa, hb6⟩
 have HK2 := Lib.hid hk2; have HOA := Lib.hid hoa; clear hk2 hoa
 have y0 := cL hb6 x0
 refine Fact.sq fun K28 hK28 => ?_
 refine Fact.sq fun K29 hK29 => ?_
 refine rg ?_
 have b46 := hf.b 46
 have b47 := hf.b 47
 have b48 := hf.b 48
 have b49 := hf.b 49
 refine fp fun K Z => ?_
 go_simp
 apply Z.out; clear Z K
 refine fp fun K Z => ?_
 go_simp
 apply Z.out; clear Z K
 refine fp fun K Z => ?_
 go_simp
 apply Z.out; clear Z K
 refine fp fun K Z => ?_
 go_simp
 apply Z.out; clear Z K
 refine fp fun K Z => ?_
 go_simp
 apply Z.out; clear Z K
 refine Fact.z hf fun fr1 hf1 hT => ?_
 have hKp : _ ∧ _ ∧ _ ∧ _ ∧ _ := ⟨hT 3, hT 5, hT 6, hT 7, hT 50⟩
 simp (decide := true) only [Fact.G, hf.size, reduceIte, s3, s5, s6, s7] at hKp
 replace hf := hf1; clear hT hf1 s3 s5 s6 s7 b46 b47 b48 b49
 obtain ⟨s3, s5, s6, s7, s50⟩ := hKp
 refine nx (hK29 _ _ ?_)
 refine Fact.cond_s s50 (fun hq2 => ?_) (fun hq2 => ?_)
 · (
 have hklt : k < s.arcs.length := by have h9 := of_decide_eq_true hq2; omega
 have HQ2 := Lib.hid hq2; clear hq2
 obtain ⟨a, hka⟩ : ∃ a, s.arcs[k]? = some a := ⟨_, List.getElem?_eq_getElem hklt⟩
 obtain ⟨b3, off3, rfl, hbl, -, -, z2⟩ := (hra5.later hb6).at' hka
 have haa := hos.2.2 a (List.mem_of_getElem? hka)
 have hat := okTo_step (i := i) hka
 have HKA := Lib.hid hka; have HAT := Lib.hid hat; clear hka hat
 have hbz := hbz1.trans (hb6.mono hbz1.size)
 rcases to_cases a.to (i : Int) with hc | hc | hc
 · (
 have q2 : decide (a.to < 0) = true := decide_eq_true hc
 have HC := Lib.hid hc; clear hc
 refine wp_skip ?_
 refine nx (hK28 _ _ ?_)
 refine Fact.sq fun K30 hK30 => ?_
 refine wp_block ?_
 refine Fact.sq fun K31 hK31 => ?_
 refine rg ?_
 have b53 := hf.b 53
 have b54 := hf.b 54
 have b55 := hf.b 55
 have b56 := hf.b 56
 have b57 := hf.b 57
 have b58 := hf.b 58
 have b59 := hf.b 59
 have b60 := hf.b 60
 have b61 := hf.b 61
 have b62 := hf.b 62
 have b63 := hf.b 63
 have b64 := hf.b 64
 have b65 := hf.b 65
 have b66 := hf.b 66
 have b67 := hf.b 67
 have b68 := hf.b 68
 refine fp fun K Z => ?_
 go_simp
 apply Z.out; clear Z K
 refine fp fun K Z => ?_
 go_simp
 apply Z.out; clear Z K
 refine fp fun K Z => ?_
 go_simp
 apply Z.out; clear Z K
 refine fp fun K Z => ?_
 go_simp
 try rw [if_pos (by omega)]
 apply Z.out; clear Z K
 refine fp fun K Z => ?_
 go_simp
 apply Z.out; clear Z K
 refine fp fun K Z => ?_
 go_simp
 apply Z.out; clear Z K
 refine fp fun K Z => ?_
 go_simp
 apply Z.out; clear Z K
 refine fp fun K Z => ?_
 go_simp
 apply Z.out; clear Z K
 refine sk 7 60 false ?_ ?_
 · (
 simp (decide := true) only [Fact.G, reduceIte, hf.size, q2, Fact.N])
 refine sk 7 60 false ?_ ?_
 · (
 simp (decide := true) only [Fact.G, reduceIte, hf.size, q2, Fact.N])
 refine sk 7 60 false ?_ ?_
 · (
 simp (decide := true) only [Fact.G, reduceIte, hf.size, q2, Fact.N])
 refine sk 7 60 false ?_ ?_
 · (
 simp (decide := true) only [Fact.G, reduceIte, hf.size, q2, Fact.N])
 refine sk 7 60 false ?_ ?_
 · (
 simp (decide := true) only [Fact.G, reduceIte, hf.size, q2, Fact.N])
 refine sk 7 60 false ?_ ?_
 · (
 simp (decide := true) only [Fact.G, reduceIte, hf.size, q2, Fact.N])
 refine sk 7 60 false ?_ ?_
 · (
 simp (decide := true) only [Fact.G, reduceIte, hf.size, q2, Fact.N])
 refine sk 7 60 false ?_ ?_
 · (
 simp (decide := true) only [Fact.G, reduceIte, hf.size, q2, Fact.N])
 refine fp fun K Z => ?_
 go_simp
 apply Z.out; clear Z K
 refine Fact.z hf fun fr1 hf1 hT => ?_
 have hKp : _ ∧ _ ∧ _ ∧ _ ∧ _ := ⟨hT 3, hT 5, hT 6, hT 7, hT 69⟩
 simp (decide := true) only [Fact.G, hf.size, reduceIte, s3, s5, s6, s7] at hKp
 replace hf := hf1; clear hT hf1 s3 s5 s6 s7 s50 b53 b54 b55 b56 b57 b58 b59 b60 b61 b62 b63 b64 b65 b66 b67 b68
 obtain ⟨s3, s5, s6, s7, s69⟩ := hKp
 refine nx (hK31 _ _ ?_)
 refine Fact.cond_t s69 ?_
 have hbad : mayF en ss = false := by rw [HM0.out, HM.out, HST.out, HOA.out, HAT.out]; have := HC.out; rw [decide_eq_false (show ¬ 0 ≤ a.to by omega)]; simp
 have HBAD := Lib.hid hbad; clear hbad
 refine Fact.sq fun K32 hK32 => ?_
 refine rg ?_
 refine fp fun K Z => ?_
 go_simp
 apply Z.out; clear Z K
 refine Fact.z hf fun fr1 hf1 hT => ?_
 have hKp := hT 4
 simp (decide := true) only [Fact.G, hf.size, reduceIte] at hKp
 replace hf := hf1; clear hT hf1 s3 s5 s6 s7 s69
 have s4 := hKp; clear hKp
 refine nx (hK32 _ _ ?_)
 refine wp_ret ?_
 refine Fact.block_ret ?_
 refine Fact.then_ret ?_
 refine Fact.then_ret ?_
 refine Fact.block_ret ?_
 refine Fact.block_ret ?_
 refine Fact.then_ret ?_
 refine Fact.then_ret ?_
 refine Fact.block_ret ?_
 refine Fact.then_ret ?_
 exact Fact.ret1 rfl hf s4 ⟨by rw [HBAD.out], hbz⟩)
 · (
 have q2 : decide (a.to < 0) = false := decide_eq_false (by omega)
 have q3 : decide ((i : Int) ≤ a.to) = true := decide_eq_true hc.2
 have HC := Lib.hid hc; clear hc
 refine wp_skip ?_
 refine nx (hK28 _ _ ?_)
 refine Fact.sq fun K33 hK33 => ?_
 refine wp_block ?_
 refine Fact.sq fun K34 hK34 => ?_
 refine rg ?_
 have b53 := hf.b 53
 have b54 := hf.b 54
 have b55 := hf.b 55
 have b56 := hf.b 56
 have b57 := hf.b 57
 have b58 := hf.b 58
 have b59 := hf.b 59
 have b60 := hf.b 60
 have b61 := hf.b 61
 have b62 := hf.b 62
 have b63 := hf.b 63
 have b64 := hf.b 64
 have b65 := hf.b 65
 have b66 := hf.b 66
 have b67 := hf.b 67
 have b68 := hf.b 68
 refine fp fun K Z => ?_
 go_simp
 apply Z.out; clear Z K
 refine fp fun K Z => ?_
 go_simp
 apply Z.out; clear Z K
 refine fp fun K Z => ?_
 go_simp
 apply Z.out; clear Z K
 refine fp fun K Z => ?_
 go_simp
 try rw [if_pos (by omega)]
 apply Z.out; clear Z K
 refine fp fun K Z => ?_
 go_simp
 apply Z.out; clear Z K
 refine fp fun K Z => ?_
 go_simp
 apply Z.out; clear Z K
 refine fp fun K Z => ?_
 go_simp
 apply Z.out; clear Z K
 refine fp fun K Z => ?_
 go_simp
 apply Z.out; clear Z K
 refine og 7 60 false ?_ fun K Z => ?_
 · (
 simp (decide := true) only [Fact.G, reduceIte, hf.size, q2, q3])
 go_simp
 apply Z.out; clear Z K
 refine og 7 60 false ?_ fun K Z => ?_
 · (
 simp (decide := true) only [Fact.G, reduceIte, hf.size, q2, q3])
 go_simp
 apply Z.out; clear Z K
 refine og 7 60 false ?_ fun K Z => ?_
 · (
 simp (decide := true) only [Fact.G, reduceIte, hf.size, q2, q3])
 go_simp
 apply Z.out; clear Z K
 refine og 7 60 false ?_ fun K Z => ?_
 · (
 simp (decide := true) only [Fact.G, reduceIte, hf.size, q2, q3])
 go_simp
 try rw [if_pos (by omega)]
 apply Z.out; clear Z K
 refine og 7 60 false ?_ fun K Z => ?_
 · (
 simp (decide := true) only [Fact.G, reduceIte, hf.size, q2, q3])
 go_simp
 apply Z.out; clear Z K
 refine og 7 60 false ?_ fun K Z => ?_
 · (
 simp (decide := true) only [Fact.G, reduceIte, hf.size, q2, q3])
 go_simp
 apply Z.out; clear Z K
 refine og 7 60 false ?_ fun K Z => ?_
 · (
 simp (decide := true) only [Fact.G, reduceIte, hf.size, q2, q3])
 go_simp
 apply Z.out; clear Z K
 refine og 7 60 false ?_ fun K Z => ?_
 · (
 simp (decide := true) only [Fact.G, reduceIte, hf.size, q2, q3])
 go_simp
 apply Z.out; clear Z K
 refine fp fun K Z => ?_
 go_simp
 apply Z.out; clear Z K
 refine Fact.z hf fun fr1 hf1 hT => ?_
 have hKp : _ ∧ _ ∧ _ ∧ _ ∧ _ := ⟨hT 3, hT 5, hT 6, hT 7, hT 69⟩
 simp (decide := true) only [Fact.G, hf.size, reduceIte, s3, s5, s6, s7] at hKp
 replace hf := hf1; clear hT hf1 s3 s5 s6 s7 s50 b53 b54 b55 b56 b57 b58 b59 b60 b61 b62 b63 b64 b65 b66 b67 b68
 obtain ⟨s3, s5, s6, s7, s69⟩ := hKp
 refine nx (hK34 _ _ ?_)
 refine Fact.cond_t s69 ?_
 have hbad : mayF en ss = false := by rw [HM0.out, HM.out, HST.out, HOA.out, HAT.out]; have := HC.out; rw [decide_eq_false (show ¬ a.to < (i : Int) by omega)]; simp
 have HBAD := Lib.hid hbad; clear hbad
 refine Fact.sq fun K35 hK35 => ?_
 refine rg ?_
 refine fp fun K Z => ?_
 go_simp
 apply Z.out; clear Z K
 refine Fact.z hf fun fr1 hf1 hT => ?_
 have hKp := hT 4
 simp (decide := true) only [Fact.G, hf.size, reduceIte] at hKp
 replace hf := hf1; clear hT hf1 s3 s5 s6 s7 s69
 have s4 := hKp; clear hKp
 refine nx (hK35 _ _ ?_)
 refine wp_ret ?_
 refine Fact.block_ret ?_
 refine Fact.then_ret ?_
 refine Fact.then_ret ?_
 refine Fact.block_ret ?_
 refine Fact.block_ret ?_
 refine Fact.then_ret ?_
 refine Fact.then_ret ?_
 refine Fact.block_ret ?_
 refine Fact.then_ret ?_
 exact Fact.ret1 rfl hf s4 ⟨by rw [HBAD.out], hbz⟩)
 · (
 have q2 : decide (a.to < 0) = false := decide_eq_false (by omega)
 have q3 : decide ((i : Int) ≤ a.to) = false := decide_eq_false (by omega)
 have HC := Lib.hid hc; clear hc
 refine wp_skip ?_
 refine nx (hK28 _ _ ?_)
 refine Fact.sq fun K36 hK36 => ?_
 refine wp_block ?_
 refine Fact.sq fun K37 hK37 => ?_
 refine rg ?_
 have b53 := hf.b 53
 have b54 := hf.b 54
 have b55 := hf.b 55
 have b56 := hf.b 56
 have b57 := hf.b 57
 have b58 := hf.b 58
 have b59 := hf.b 59
 have b60 := hf.b 60
 have b61 := hf.b 61
 have b62 := hf.b 62
 have b63 := hf.b 63
 have b64 := hf.b 64
 have b65 := hf.b 65
 have b66 := hf.b 66
 have b67 := hf.b 67
 have b68 := hf.b 68
 refine fp fun K Z => ?_
 go_simp
 apply Z.out; clear Z K
 refine fp fun K Z => ?_
 go_simp
 apply Z.out; clear Z K
 refine fp fun K Z => ?_
 go_simp
 apply Z.out; clear Z K
 refine fp fun K Z => ?_
 go_simp
 try rw [if_pos (by omega)]
 apply Z.out; clear Z K
 refine fp fun K Z => ?_
 go_simp
 apply Z.out; clear Z K
 refine fp fun K Z => ?_
 go_simp
 apply Z.out; clear Z K
 refine fp fun K Z => ?_
 go_simp
 apply Z.out; clear Z K
 refine fp fun K Z => ?_
 go_simp
 apply Z.out; clear Z K
 refine og 7 60 false ?_ fun K Z => ?_
 · (
 simp (decide := true) only [Fact.G, reduceIte, hf.size, q2, q3])
 go_simp
 apply Z.out; clear Z K
 refine og 7 60 false ?_ fun K Z => ?_
 · (
 simp (decide := true) only [Fact.G, reduceIte, hf.size, q2, q3])
 go_simp
 apply Z.out; clear Z K
 refine og 7 60 false ?_ fun K Z => ?_
 · (
 simp (decide := true) only [Fact.G, reduceIte, hf.size, q2, q3])
 go_simp
 apply Z.out; clear Z K
 refine og 7 60 false ?_ fun K Z => ?_
 · (
 simp (decide := true) only [Fact.G, reduceIte, hf.size, q2, q3])
 go_simp
 try rw [if_pos (by omega)]
 apply Z.out; clear Z K
 refine og 7 60 false ?_ fun K Z => ?_
 · (
 simp (decide := true) only [Fact.G, reduceIte, hf.size, q2, q3])
 go_simp
 apply Z.out; clear Z K
 refine og 7 60 false ?_ fun K Z => ?_
 · (
 simp (decide := true) only [Fact.G, reduceIte, hf.size, q2, q3])
 go_simp
 apply Z.out; clear Z K
 refine og 7 60 false ?_ fun K Z => ?_
 · (
 simp (decide := true) only [Fact.G, reduceIte, hf.size, q2, q3])
 go_simp
 apply Z.out; clear Z K
 refine og 7 60 false ?_ fun K Z => ?_
 · (
 simp (decide := true) only [Fact.G, reduceIte, hf.size, q2, q3])
 go_simp
 apply Z.out; clear Z K
 refine fp fun K Z => ?_
 go_simp
 apply Z.out; clear Z K
 refine Fact.z hf fun fr1 hf1 hT => ?_
 have hKp : _ ∧ _ ∧ _ ∧ _ ∧ _ := ⟨hT 3, hT 5, hT 6, hT 7, hT 69⟩
 simp (decide := true) only [Fact.G, hf.size, reduceIte, s3, s5, s6, s7] at hKp
 replace hf := hf1; clear hT hf1 s3 s5 s6 s7 s50 b53 b54 b55 b56 b57 b58 b59 b60 b61 b62 b63 b64 b65 b66 b67 b68
 obtain ⟨s3, s5, s6, s7, s69⟩ := hKp
 refine nx (hK37 _ _ ?_)
 refine Fact.cond_f s69 ?_
 have hoa3 : okTo i s.arcs = okTo i (s.arcs.drop (k + 1)) := by rw [HOA.out, HAT.out]; have := HC.out; rw [decide_eq_true (show 0 ≤ a.to by omega), decide_eq_true (show a.to < (i : Int) by omega)]; rfl
 have HOA3 := Lib.hid hoa3; clear hoa3
 refine wp_skip ?_
 refine Fact.block_normal ?_
 refine nx (hK36 _ _ ?_)
 refine rg ?_
 have b51 := hf.b 51
 have b52 := hf.b 52
 refine fp fun K Z => ?_
 go_simp
 apply Z.out; clear Z K
 refine fp fun K Z => ?_
 go_simp
 try simp (disch := omega) only [Fact.W]
 apply Z.out; clear Z K
 refine fp fun K Z => ?_
 go_simp
 apply Z.out; clear Z K
 refine Fact.z hf fun fr1 hf1 hT => ?_
 have hKp : _ ∧ _ ∧ _ ∧ _ := ⟨hT 3, hT 5, hT 6, hT 7⟩
 simp (decide := true) only [Fact.G, hf.size, reduceIte, s3, s5, s6] at hKp
 replace hf := hf1; clear hT hf1 s3 s5 s6 s7 s69 b51 b52
 obtain ⟨s3, s5, s6, s7⟩ := hKp
 refine Fact.then_normal ?_
 exact ⟨_, by have := HK2.out; omega, k + 1, rfl, by omega, hf, s3, s5, s6, by rw [s7]; rfl, HOA3.out, hb6⟩))
 · (
 have hke : k = s.arcs.length := by have h9 := of_decide_eq_false hq2; omega
 have hoa2 : okTo i s.arcs = true := by rw [HOA.out, hke, List.drop_length]; rfl
 have HOA2 := Lib.hid hoa2; clear hoa2 hke hq2
 have hbr := hbr0.trans (hb6.mono hbr0.size)
 refine wp_exit ?_
 refine Fact.then_exit ?_
 refine Fact.then_exit ?_
 refine Fact.block_exit ?_
 refine Fact.block_normal ?_
 refine nx (hK20 _ _ ?_)
 refine rg ?_
 have b25 := hf.b 25
 have b26 := hf.b 26
 refine fp fun K Z => ?_
 go_simp
 apply Z.out; clear Z K
 refine fp fun K Z => ?_
 go_simp
 try simp (disch := omega) only [Fact.W]
 apply Z.out; clear Z K
 refine fp fun K Z => ?_
 go_simp
 apply Z.out; clear Z K
 refine Fact.z hf fun fr1 hf1 hT => ?_
 have hKp : _ ∧ _ := ⟨hT 3, hT 5⟩
 simp (decide := true) only [Fact.G, hf.size, reduceIte, s3] at hKp
 replace hf := hf1; clear hT hf1 s3 s5 s6 s7 s50 b25 b26
 obtain ⟨s3, s5⟩ := hKp
 refine Fact.then_normal ?_
 exact ⟨_, by have := HK.out; omega, i + 1, rfl, by omega, hf, s3, by rw [s5]; rfl, by rw [HM.out, HST.out, HFO.out, HOA2.out]; rfl, hbr⟩))))
 · (
 have hie : i = ss.length := by have h9 := of_decide_eq_false hq; omega
 have HIE := Lib.hid hie; clear hie hq
 refine wp_exit ?_
 refine Fact.then_exit ?_
 refine Fact.then_exit ?_
 refine Fact.block_exit ?_
 refine nx (hK16 _ _ ?_)
 refine Fact.sq fun K38 hK38 => ?_
 refine rg ?_
 refine fp fun K Z => ?_
 go_simp
 apply Z.out; clear Z K
 refine Fact.z hf fun fr1 hf1 hT => ?_
 have hKp := hT 4
 simp (decide := true) only [Fact.G, hf.size, reduceIte] at hKp
 replace hf := hf1; clear hT hf1 s3 s5 s24
 have s4 := hKp; clear hKp
 refine nx (hK38 _ _ ?_)
 refine wp_ret ?_
 refine Fact.ret1 rfl hf s4 ⟨?_, hb0.trans (hb.mono hb0.size)⟩
 rw [HM0.out, HM.out, HIE.out, List.drop_length]
 rfl)))
end Dw
end Go.Proofs.YtdkbgbdgmihlmaaDoor

namespace Go.Proofs.YtdkbgbdgmihlmaaDoor
open Go.RowKit
set_option linter.unusedSimpArgs false
set_option linter.unusedVariables false
set_option linter.unnecessarySimpa false
namespace Dw

theorem numB_bl {n : Nat} (h : n < M64) : (bl (numB n)).size ≤ 9 := by rw [bl_size]; exact (numB_le h).2
theorem mag_bl : (⟨#[67, 83, 1]⟩ : ByteArray) = bl [67, 83, 1] := by decide
/-- a row of one byte -/
def PB1 (x : Nat) : Stab.Pr := fun v w => ∃ b, v = .slice (some ⟨b, 0, none⟩) 1 1 ∧ w.cell? ⟨b, 0, none⟩ = some (.int .u8 x)
theorem PB1.stable (x : Nat) : Stab.Stable (PB1 x) := fun v w w' hb ⟨b, h1, h2⟩ => ⟨b, h1, cL hb h2⟩
theorem PB1.new (w : World) (x : Nat) (t : TypeId) : PB1 x (.slice (some ⟨w.heap.size, 0, none⟩) 1 1) (w.alloc (.cells #[.int .u8 x] t)) := ⟨_, rfl, lit_new w [.int .u8 x] t 0 _ rfl⟩
theorem conv_one {w : World} {b x : Nat} (h : w.cell? ⟨b, 0, none⟩ = some (.int .u8 x)) : (convert 35 9 (.slice (some ⟨b, 0, none⟩) 1 1)).run Tryd.prog w = .ok (.string (bl [x])) w := by
  refine run_convert_bytes_arg (P := Tryd.prog) w 35 5 Tryd.underlying35 Tryd.underlying5 b 0 1 1 [(x : Int)] rfl (fun i hi => ?_) 9 Tryd.underlying9
  have : i = 0 := by simpa using hi
  subst this
  rw [Nat.zero_add, h]
  rfl
set_option maxHeartbeats 4000000 in
set_option maxRecDepth 100000 in
theorem rput8 (w : World) (en : Int) (sv : Value) (init : Nat) (ss : List State) (hrs : RS w sv ss) (hok : ∀ s ∈ ss, okS s) (hlen : ss.length ≤ 100000) (hfew : ∀ s ∈ ss, s.arcs.length ≤ 1000) (hinit : init < 18446744073709551616) : Calls Tryd.prog 8 #[.int .i64 en, .agg #[sv, .int .u64 init]] w fun e w1 => e = .returned (.tuple #[.string (bl (putR en init ss).1), .int .i64 (putR en init ss).2]) ∧ Below w.heap.size w w1 := by
 refine calls_of_wp Tryd.func8 rfl ?_
 refine Fact.en 95 fun fr hf hT => ?_
 have s0 := hT 0 _ rfl
 have s1 := hT 1 _ rfl
 clear hT
 obtain ⟨A, cc, rfl, hcc⟩ := hrs.form
 have HO := Lib.hid hok; have HF := Lib.hid hfew; clear hok hfew
 refine Fact.sq fun K1 hK1 => ?_
 refine rg ?_
 refine fp fun K Z => ?_
 go_simp
 apply Z.out; clear Z K
 refine fp fun K Z => ?_
 go_simp
 apply Z.out; clear Z K
 refine fp fun K Z => ?_
 go_simp
 apply Z.out; clear Z K
 refine Fact.z hf fun fr1 hf1 hT => ?_
 have hKp : _ ∧ _ := ⟨hT 0, hT 3⟩
 simp (decide := true) only [Fact.G, hf.size, reduceIte, s0] at hKp
 replace hf := hf1; clear hT hf1 s0 s1
 obtain ⟨s0, s3⟩ := hKp
 obtain ⟨W0, hW0⟩ : ∃ W0, w.alloc (.cells #[.slice A ss.length cc, .int .u64 init] 25) = W0 := ⟨_, rfl⟩
 try rw [hW0]
 obtain ⟨hb0, c0, c1, -, -⟩ := box2 hW0
 clear hW0
 have hr0 := hrs.later hb0
 clear hrs
 refine nx (hK1 _ _ ?_)
 refine Fact.sq fun K2 hK2 => ?_
 refine Fact.sq fun K3 hK3 => ?_
 refine rg ?_
 have b11 := hf.b 11
 have b12 := hf.b 12
 have b13 := hf.b 13
 refine fp fun K Z => ?_
 go_simp
 apply Z.out; clear Z K
 refine fp fun K Z => ?_
 go_simp
 apply Z.out; clear Z K
 refine fp fun K Z => ?_
 go_simp
 go_at_call 23; refine (rmay W0 en _ init ss hr0 HO.out (by omega) HF.out).mono ?_; rintro e u1 ⟨rfl, hb1⟩
 have hbt := hb0.trans (hb1.mono hb0.size)
 have e0 := cL hb1 c0; have e1 := cL hb1 c1; have hr1 := hr0.later hb1
 clear c0 c1 hr0
 try dsimp only
 apply Z.out; clear Z K
 refine fp fun K Z => ?_
 go_simp
 apply Z.out; clear Z K
 refine Fact.z hf fun fr1 hf1 hT => ?_
 have hKp : _ ∧ _ ∧ _ := ⟨hT 0, hT 3, hT 14⟩
 simp (decide := true) only [Fact.G, hf.size, reduceIte, s0, s3] at hKp
 replace hf := hf1; clear hT hf1 s0 s3 b11 b12 b13
 obtain ⟨s0, s3, s14⟩ := hKp
 refine nx (hK3 _ _ ?_)
 rcases hmy : mayF en ss with _ | _
 · (
 have HM := Lib.hid hmy
 rw [hmy] at s14
 simp only [Bool.not_false, Bool.not_true] at s14
 clear hmy
 refine Fact.cond_t s14 ?_
 refine Fact.sq fun K4 hK4 => ?_
 refine rg ?_
 refine fp fun K Z => ?_
 go_simp
 apply Z.out; clear Z K
 refine fp fun K Z => ?_
 go_simp
 apply Z.out; clear Z K
 refine Fact.z hf fun fr1 hf1 hT => ?_
 have hKp : _ ∧ _ := ⟨hT 4, hT 5⟩
 simp (decide := true) only [Fact.G, hf.size, reduceIte] at hKp
 replace hf := hf1; clear hT hf1 s0 s3 s14
 obtain ⟨s4, s5⟩ := hKp
 refine nx (hK4 _ _ ?_)
 refine wp_ret ?_
 refine Fact.then_ret ?_
 exact Fact.ret2 rfl hf s4 s5 ⟨by rw [putR_bad HM.out]; rfl, hbt⟩)
 · (
 have HM := Lib.hid hmy
 rw [hmy] at s14
 simp only [Bool.not_false, Bool.not_true] at s14
 clear hmy
 refine Fact.cond_f s14 ?_
 obtain ⟨he0, he1, hs0, hml⟩ := may_out HM.out
 obtain ⟨n, hn⟩ : ∃ n : Nat, en = (n : Int) := ⟨en.toNat, by omega⟩
 subst hn
 have HML := Lib.hid hml; clear hml
 have hen : n ≤ 100000 := by omega
 clear he0 he1
 have hn64 : n < M64 := by unfold M64; omega
 have hs64 : ss.length < M64 := by unfold M64; omega
 have hi64 : init < M64 := hinit
 have z1 := numB_bl hn64; have z2 := numB_bl hs64; have z3 := numB_bl hi64
 obtain ⟨M0, hM0⟩ : ∃ x, [67, 83, 1] ++ numB n = x := ⟨_, rfl⟩
 have hm0 : M0.length ≤ 12 := by rw [← hM0]; rw [bl_size] at z1; simp only [List.length_append, List.length_cons, List.length_nil]; omega
 have HM0 := Lib.hid hM0; clear hM0
 have hzm := bl_size M0
 refine wp_skip ?_
 refine nx (hK2 _ _ ?_)
 refine Fact.sq fun K5 hK5 => ?_
 refine Stab.tb 95 fun hok => ?_
 refine Stab.mO 0 s0 hf hok ?_
 apply Stab.tq 1 _ hf hok
 · (
 intro fr1 w1 hh hd hk K Z
 have s15 := Stab.v 0 0 hd hk []
 clear hd
 go_simp
 try rw [Fact.wrap_u64 (by omega) (by omega)]
 exact Stab.k Z)
 apply Stab.tq 2 _ hf hok
 · (
 intro fr1 w1 hh hd hk K Z
 have s16 := Stab.v 1 0 hd hk []
 clear hd
 replace e0 := cL hh.ext e0
 replace e1 := cL hh.ext e1
 replace hr1 := hr1.later hh.ext
 replace hbt := hbt.trans (hh.ext.mono hbt.size)
 go_simp
 go_at_call 24; refine (rone w1 n hn64).mono ?_; rintro e w2 ⟨rfl, hb⟩
 exact Z.out _ rfl _ _ hb rfl)
 apply Stab.tq 3 _ hf hok
 · (
 intro fr1 w1 hh hd hk K Z
 have s17 := Stab.v 2 0 hd hk []
 clear hd
 go_simp
 try simp (disch := omega) only [Fact.W]
 rw [if_neg (by omega)]
 try rw [Oper.upon_value]
 rw [show (⟨#[67, 83, 1]⟩ : ByteArray) = bl [67, 83, 1] from mag_bl, ← bl_append, HM0.out]
 exact Stab.k Z)
 apply Stab.tq 4 _ hf hok
 · (
 intro fr1 w1 hh hd hk K Z
 have s3 := Stab.O hh s3
 clear hd
 go_simp
 exact Stab.k Z)
 apply Stab.tq 5 _ hf hok
 · (
 intro fr1 w1 hh hd hk K Z
 have s19 := Stab.v 4 0 hd hk []
 clear hd
 replace e0 := cL hh.ext e0
 replace e1 := cL hh.ext e1
 replace hr1 := hr1.later hh.ext
 replace hbt := hbt.trans (hh.ext.mono hbt.size)
 go_simp
 exact Stab.k Z)
 apply Stab.tq 6 _ hf hok
 · (
 intro fr1 w1 hh hd hk K Z
 have s20 := Stab.v 5 0 hd hk []
 clear hd
 replace e0 := cL hh.ext e0
 replace e1 := cL hh.ext e1
 replace hr1 := hr1.later hh.ext
 replace hbt := hbt.trans (hh.ext.mono hbt.size)
 go_simp
 exact Stab.k Z)
 apply Stab.tq 7 _ hf hok
 · (
 intro fr1 w1 hh hd hk K Z
 have s21 := Stab.v 6 0 hd hk []
 clear hd
 go_simp
 try rw [Fact.wrap_u64 (by omega) (by omega)]
 exact Stab.k Z)
 apply Stab.tq 8 _ hf hok
 · (
 intro fr1 w1 hh hd hk K Z
 have s22 := Stab.v 7 0 hd hk []
 clear hd
 replace e0 := cL hh.ext e0
 replace e1 := cL hh.ext e1
 replace hr1 := hr1.later hh.ext
 replace hbt := hbt.trans (hh.ext.mono hbt.size)
 go_simp
 go_at_call 24; refine (rone w1 ss.length hs64).mono ?_; rintro e w2 ⟨rfl, hb⟩
 exact Z.out _ rfl _ _ hb rfl)
 apply Stab.tq 9 _ hf hok
 · (
 intro fr1 w1 hh hd hk K Z
 have s18 := Stab.v 3 5 hd hk []
 have s23 := Stab.v 8 0 hd hk []
 clear hd
 go_simp
 try simp (disch := omega) only [Fact.W]
 rw [if_neg (by omega)]
 try rw [Oper.upon_value]
 rw [← bl_append]
 exact Stab.k Z)
 refine Stab.mN 10 9 0 hf hok [] ?_
 refine Stab.tf hf hok fun fr1 w1 hh hg => ?_
 replace s3 := Stab.O hh s3
 have s6 := Stab.f 10 0 hg
 have hf1 := hh.fr hf
 have hx := hh.ext
 replace e0 := cL hx e0
 replace e1 := cL hx e1
 replace hr1 := hr1.later hx
 replace hbt := hbt.trans (hx.mono hbt.size)
 clear hg hh hf hok s0 s14
 have hf := hf1; clear hf1
 obtain ⟨L0, hL0⟩ : ∃ x, M0 ++ numB ss.length = x := ⟨_, rfl⟩
 rw [hL0] at s6
 have hl0 : L0.length ≤ 21 := by rw [← hL0]; rw [bl_size] at z2; simp only [List.length_append]; omega
 rw [← HM0.out] at hL0
 have HL0 := Lib.hid hL0; clear hL0
 refine nx (hK5 _ _ ?_)
 refine Fact.sq fun K6 hK6 => ?_
 refine Fact.sq fun K7 hK7 => ?_
 refine rg ?_
 refine fp fun K Z => ?_
 go_simp
 apply Z.out; clear Z K
 refine Fact.z hf fun fr1 hf1 hT => ?_
 have hKp : _ ∧ _ ∧ _ := ⟨hT 3, hT 6, hT 7⟩
 simp (decide := true) only [Fact.G, hf.size, reduceIte, s3, s6] at hKp
 replace hf := hf1; clear hT hf1 s3 s6
 obtain ⟨s3, s6, s7⟩ := hKp
 refine nx (hK7 _ _ ?_)
 refine wp_block ?_
 refine wp_loop_ghost (fun gk fr wr => ∃ (i : Nat), gk = ss.length - i ∧ i ≤ ss.length ∧ Fact.Fr 95 fr ∧ fr.tmps[3]? = some (.pointer (some ⟨w.heap.size, 0, none⟩)) ∧ fr.tmps[6]? = some (.string (bl (L0 ++ statesB 0 (ss.take i)))) ∧ fr.tmps[7]? = some (.int .i64 i) ∧ wr.cell? ⟨w.heap.size, 0, none⟩ = some (.slice A ss.length cc) ∧ wr.cell? ⟨w.heap.size, 1, none⟩ = some (.int .u64 init) ∧ RS wr (.slice A ss.length cc) ss ∧ Below w.heap.size w wr) (ss.length) ?_ ?_
 · (
 exact ⟨0, rfl, Nat.zero_le _, hf, s3, by rw [s6]; simp [statesB], s7, e0, e1, hr1, hbt⟩)
 · (
 clear hf s3 s6 s7
 clear e0 e1 hr1 hbt
 rintro gk fr wr ⟨i, hk, hi, hf, s3, s6, s7, e0, e1, hr1, hbt⟩
 have HK := Lib.hid hk; clear hk
 have hsm := statesB_le HO.out HML.out (by omega : ss.length ≤ 1000000) i
 obtain ⟨L, hL⟩ : ∃ x, L0 ++ statesB 0 (ss.take i) = x := ⟨_, rfl⟩
 rw [hL] at s6
 have hll : L.length ≤ 488300000 := by rw [← hL, List.length_append]; omega
 have HL := Lib.hid hL; clear hL hsm
 refine Fact.sq fun K8 hK8 => ?_
 refine Fact.sq fun K9 hK9 => ?_
 refine rg ?_
 have b25 := hf.b 25
 have b26 := hf.b 26
 have b27 := hf.b 27
 have b28 := hf.b 28
 refine fp fun K Z => ?_
 go_simp
 apply Z.out; clear Z K
 refine fp fun K Z => ?_
 go_simp
 apply Z.out; clear Z K
 refine fp fun K Z => ?_
 go_simp
 apply Z.out; clear Z K
 refine fp fun K Z => ?_
 go_simp
 apply Z.out; clear Z K
 refine fp fun K Z => ?_
 go_simp
 apply Z.out; clear Z K
 refine Fact.z hf fun fr1 hf1 hT => ?_
 have hKp : _ ∧ _ ∧ _ ∧ _ := ⟨hT 3, hT 6, hT 7, hT 29⟩
 simp (decide := true) only [Fact.G, hf.size, reduceIte, s3, s6, s7] at hKp
 replace hf := hf1; clear hT hf1 s3 s6 s7 b25 b26 b27 b28
 obtain ⟨s3, s6, s7, s29⟩ := hKp
 refine nx (hK9 _ _ ?_)
 refine Fact.cond_s s29 (fun hq => ?_) (fun hq => ?_)
 · (
 have hlt : i < ss.length := by have h9 := of_decide_eq_true hq; omega
 clear hq
 obtain ⟨s, his⟩ : ∃ s, ss[i]? = some s := ⟨_, List.getElem?_eq_getElem hlt⟩
 obtain ⟨b, off, av, rfl, hat⟩ := hr1.at_ his
 have d0 := hat.c0; have d1 := hat.c1; have d2 := hat.c2
 have hra := hat.arcs
 obtain ⟨A2, c2, rfl, _⟩ := hat.arcs.form
 have hos := HO.out s (List.mem_of_getElem? his)
 have hms := mayL_at HML.out his
 rw [Nat.zero_add] at hms
 have hst := statesB_take his
 have HIS := Lib.hid his; have HST := Lib.hid hst; clear his hst hat
 have hal := hms.1
 have hso := hos.1
 have ho64 : s.out < M64 := hos.1
 have z4 := numB_bl ho64
 have hzl := bl_size L
 refine wp_skip ?_
 refine nx (hK8 _ _ ?_)
 refine Fact.sq fun K10 hK10 => ?_
 refine wp_block ?_
 refine Fact.sq fun K11 hK11 => ?_
 refine rg ?_
 have b32 := hf.b 32
 have b33 := hf.b 33
 have b34 := hf.b 34
 have b35 := hf.b 35
 have b36 := hf.b 36
 have b8 := hf.b 8
 refine fp fun K Z => ?_
 go_simp
 apply Z.out; clear Z K
 refine fp fun K Z => ?_
 go_simp
 apply Z.out; clear Z K
 refine fp fun K Z => ?_
 go_simp
 apply Z.out; clear Z K
 refine fp fun K Z => ?_
 go_simp
 try rw [if_pos (by omega)]
 apply Z.out; clear Z K
 refine fp fun K Z => ?_
 go_simp
 apply Z.out; clear Z K
 refine fp fun K Z => ?_
 go_simp
 apply Z.out; clear Z K
 refine fp fun K Z => ?_
 go_simp
 apply Z.out; clear Z K
 refine Fact.z hf fun fr1 hf1 hT => ?_
 have hKp : _ ∧ _ ∧ _ ∧ _ := ⟨hT 3, hT 6, hT 7, hT 8⟩
 simp (decide := true) only [Fact.G, hf.size, reduceIte, s3, s6, s7] at hKp
 replace hf := hf1; clear hT hf1 s3 s6 s7 s29 b32 b33 b34 b35 b36 b8
 obtain ⟨s3, s6, s7, s8⟩ := hKp
 obtain ⟨W5, hW5⟩ : ∃ W0, wr.alloc (.cells #[.slice A2 s.arcs.length c2, .bool s.final, .int .u64 s.out] 64) = W0 := ⟨_, rfl⟩
 try rw [hW5]
 obtain ⟨hb5, x0, x1, x2, -, -⟩ := box3 hW5
 clear hW5
 clear d0 d1 d2
 replace hra := hra.later hb5
 replace hr1 := hr1.later hb5
 replace e0 := cL hb5 e0; replace e1 := cL hb5 e1
 replace hbt := hbt.trans (hb5.mono hbt.size)
 refine nx (hK11 _ _ ?_)
 refine Fact.seq_meet (fun fr wq => Fact.Fr 95 fr ∧ fr.tmps[3]? = some (.pointer (some ⟨w.heap.size, 0, none⟩)) ∧ fr.tmps[6]? = some (.string (bl (L ++ headB s))) ∧ fr.tmps[7]? = some (.int .i64 i) ∧ fr.tmps[8]? = some (.pointer (some ⟨wr.heap.size, 0, none⟩)) ∧ wq.cell? ⟨wr.heap.size, 0, none⟩ = some (.slice A2 s.arcs.length c2) ∧ Below W5.heap.size W5 wq) ?_ ?_
 · (
 rcases hfin : s.final with _ | _
 · (
 have HFI := Lib.hid hfin
 rw [hfin] at x1
 clear hfin
 obtain ⟨hd, hhd⟩ : ∃ x, 2 * s.arcs.length = x := ⟨_, rfl⟩
 have hd64 : hd < M64 := by unfold M64; omega
 have hd9 := hd64; unfold M64 at hd9
 have z5 := numB_bl hd64
 have HHD := Lib.hid hhd; clear hhd
 refine Fact.sq fun K12 hK12 => ?_
 refine rg ?_
 have b37 := hf.b 37
 refine fp fun K Z => ?_
 go_simp
 apply Z.out; clear Z K
 refine fp fun K Z => ?_
 go_simp
 apply Z.out; clear Z K
 refine Fact.z hf fun fr1 hf1 hT => ?_
 have hKp : _ ∧ _ ∧ _ ∧ _ ∧ _ := ⟨hT 3, hT 6, hT 7, hT 8, hT 38⟩
 simp (decide := true) only [Fact.G, hf.size, reduceIte, s3, s6, s7, s8] at hKp
 replace hf := hf1; clear hT hf1 s3 s6 s7 s8 b37
 obtain ⟨s3, s6, s7, s8, s38⟩ := hKp
 refine nx (hK12 _ _ ?_)
 refine Fact.cond_f s38 ?_
 refine rg ?_
 have b52 := hf.b 52
 have b53 := hf.b 53
 have b54 := hf.b 54
 have b55 := hf.b 55
 have b56 := hf.b 56
 have b57 := hf.b 57
 have b58 := hf.b 58
 have b59 := hf.b 59
 refine fp fun K Z => ?_
 go_simp
 apply Z.out; clear Z K
 refine fp fun K Z => ?_
 go_simp
 apply Z.out; clear Z K
 refine fp fun K Z => ?_
 go_simp
 apply Z.out; clear Z K
 refine fp fun K Z => ?_
 go_simp
 apply Z.out; clear Z K
 refine fp fun K Z => ?_
 go_simp
 try simp (disch := omega) only [Fact.W]
 rw [show (2 : Int) * ((s.arcs.length : Nat) : Int) = ((hd : Nat) : Int) by have := HHD.out; omega]
 apply Z.out; clear Z K
 refine fp fun K Z => ?_
 go_simp
 try rw [Fact.wrap_u64 (by omega) (by omega)]
 apply Z.out; clear Z K
 refine fp fun K Z => ?_
 go_simp
 go_at_call 24; refine (rone W5 hd hd64).mono ?_; rintro e w2 ⟨rfl, hbq⟩
 replace x0 := cL hbq x0
 try dsimp only
 apply Z.out; clear Z K
 refine fp fun K Z => ?_
 go_simp
 try simp (disch := omega) only [Fact.W]
 rw [if_neg (by omega)]
 try rw [Oper.upon_value]
 rw [← bl_append]
 apply Z.out; clear Z K
 refine fp fun K Z => ?_
 go_simp
 apply Z.out; clear Z K
 refine Fact.z hf fun fr1 hf1 hT => ?_
 have hKp : _ ∧ _ ∧ _ ∧ _ := ⟨hT 3, hT 6, hT 7, hT 8⟩
 simp (decide := true) only [Fact.G, hf.size, reduceIte, s3, s7, s8] at hKp
 replace hf := hf1; clear hT hf1 s3 s6 s7 s8 s38 b52 b53 b54 b55 b56 b57 b58 b59
 obtain ⟨s3, s6, s7, s8⟩ := hKp
 rw [show numB hd = headB s by unfold headB; rw [HFI.out, if_neg (by simp), numsB_one, HHD.out]] at s6
 refine Fact.then_normal ?_
 exact ⟨hf, s3, s6, s7, s8, x0, hbq⟩)
 · (
 have HFI := Lib.hid hfin
 rw [hfin] at x1
 clear hfin
 obtain ⟨hd, hhd⟩ : ∃ x, 2 * s.arcs.length + 1 = x := ⟨_, rfl⟩
 have hd64 : hd < M64 := by unfold M64; omega
 have hd9 := hd64; unfold M64 at hd9
 have z5 := numB_bl hd64
 have HHD := Lib.hid hhd; clear hhd
 refine Fact.sq fun K13 hK13 => ?_
 refine rg ?_
 have b37 := hf.b 37
 refine fp fun K Z => ?_
 go_simp
 apply Z.out; clear Z K
 refine fp fun K Z => ?_
 go_simp
 apply Z.out; clear Z K
 refine Fact.z hf fun fr1 hf1 hT => ?_
 have hKp : _ ∧ _ ∧ _ ∧ _ ∧ _ := ⟨hT 3, hT 6, hT 7, hT 8, hT 38⟩
 simp (decide := true) only [Fact.G, hf.size, reduceIte, s3, s6, s7, s8] at hKp
 replace hf := hf1; clear hT hf1 s3 s6 s7 s8 b37
 obtain ⟨s3, s6, s7, s8, s38⟩ := hKp
 refine nx (hK13 _ _ ?_)
 refine Fact.cond_t s38 ?_
 refine Stab.tb 95 fun hok => ?_
 refine Stab.mvP (k := 0) (j := 13) s6 hf.size hok.out rfl rfl rfl (.inl rfl) [] (by kernel_rfl) (by kernel_rfl) ?_
 apply Stab.tq 1 _ hf hok
 · (
 intro fr1 w1 hh hd hk K Z
 have s8 := Stab.O hh s8
 clear hd
 go_simp
 exact Stab.k Z)
 apply Stab.tq 2 _ hf hok
 · (
 intro fr1 w1 hh hd hk K Z
 have s40 := Stab.v 1 0 hd hk []
 clear hd
 replace x0 := cL hh.ext x0
 replace x2 := cL hh.ext x2
 go_simp
 exact Stab.k Z)
 apply Stab.tq 3 _ hf hok
 · (
 intro fr1 w1 hh hd hk K Z
 have s41 := Stab.v 2 0 hd hk []
 clear hd
 replace x0 := cL hh.ext x0
 replace x2 := cL hh.ext x2
 go_simp
 exact Stab.k Z)
 apply Stab.tq 4 _ hf hok
 · (
 intro fr1 w1 hh hd hk K Z
 have s42 := Stab.v 3 0 hd hk []
 clear hd
 go_simp
 try simp (disch := omega) only [Fact.W]
 exact Stab.k Z)
 apply Stab.tq 5 _ hf hok
 · (
 intro fr1 w1 hh hd hk K Z
 have s43 := Stab.v 4 0 hd hk []
 clear hd
 go_simp
 try simp (disch := omega) only [Fact.W]
 rw [show (2 : Int) * ((s.arcs.length : Nat) : Int) + 1 = ((hd : Nat) : Int) by have := HHD.out; omega]
 exact Stab.k Z)
 apply Stab.tq 6 _ hf hok
 · (
 intro fr1 w1 hh hd hk K Z
 have s44 := Stab.v 5 0 hd hk []
 clear hd
 go_simp
 try rw [Fact.wrap_u64 (by omega) (by omega)]
 exact Stab.k Z)
 apply Stab.tq 7 _ hf hok
 · (
 intro fr1 w1 hh hd hk K Z
 have s45 := Stab.v 6 0 hd hk []
 clear hd
 replace x0 := cL hh.ext x0
 replace x2 := cL hh.ext x2
 go_simp
 go_at_call 24; refine (rone w1 hd hd64).mono ?_; rintro e w2 ⟨rfl, hb⟩
 exact Z.out _ rfl _ _ hb rfl)
 apply Stab.tq 8 _ hf hok
 · (
 intro fr1 w1 hh hd hk K Z
 have s39 := Stab.v 0 7 hd hk []
 have s46 := Stab.v 7 0 hd hk []
 clear hd
 go_simp
 try simp (disch := omega) only [Fact.W]
 rw [if_neg (by omega)]
 try rw [Oper.upon_value]
 rw [← bl_append]
 exact Stab.k Z)
 apply Stab.tq 9 _ hf hok
 · (
 intro fr1 w1 hh hd hk K Z
 have s8 := Stab.O hh s8
 clear hd
 go_simp
 exact Stab.k Z)
 apply Stab.tq 10 _ hf hok
 · (
 intro fr1 w1 hh hd hk K Z
 have s48 := Stab.v 9 0 hd hk []
 clear hd
 replace x0 := cL hh.ext x0
 replace x2 := cL hh.ext x2
 go_simp
 exact Stab.k Z)
 apply Stab.tq 11 _ hf hok
 · (
 intro fr1 w1 hh hd hk K Z
 have s49 := Stab.v 10 0 hd hk []
 clear hd
 replace x0 := cL hh.ext x0
 replace x2 := cL hh.ext x2
 go_simp
 go_at_call 24; refine (rone w1 s.out ho64).mono ?_; rintro e w2 ⟨rfl, hb⟩
 exact Z.out _ rfl _ _ hb rfl)
 apply Stab.tq 12 _ hf hok
 · (
 intro fr1 w1 hh hd hk K Z
 have s47 := Stab.v 8 3 hd hk []
 have s50 := Stab.v 11 0 hd hk []
 clear hd
 go_simp
 try simp (disch := omega) only [Fact.W]
 rw [if_neg (by rw [bl_size, List.length_append]; rw [bl_size] at z5; omega)]
 try rw [Oper.upon_value]
 rw [← bl_append]
 exact Stab.k Z)
 refine Stab.mN 13 12 0 hf hok [] ?_
 refine Stab.tf hf hok fun fr1 w1 hh hg => ?_
 replace s3 := Stab.O hh s3
 clear s6; have s6 := Stab.f 13 0 hg
 replace s7 := Stab.O hh s7
 replace s8 := Stab.O hh s8
 have hf1 := hh.fr hf
 have hx := hh.ext
 replace x0 := cL hx x0
 replace x2 := cL hx x2
 clear hg hh hf hok s38
 have hf := hf1; clear hf1
 have hbq := hx
 rw [List.append_assoc, show numB hd ++ numB s.out = headB s by unfold headB; rw [HFI.out, if_pos rfl, numsB_two, HHD.out]] at s6
 refine Fact.then_normal ?_
 exact ⟨hf, s3, s6, s7, s8, x0, hbq⟩))
 · (
 clear hf s3 s6 s7 s8
 rintro fr wq ⟨hf, s3, s6, s7, s8, x0, hbq⟩
 obtain ⟨L1, hL1⟩ : ∃ x, L ++ headB s = x := ⟨_, rfl⟩
 rw [hL1] at s6
 have hl1 : L1.length ≤ 488300020 := by rw [← hL1, List.length_append]; have := headB_le hos.1 (by omega : s.arcs.length ≤ 1000); omega
 have HL1 := Lib.hid hL1; clear hL1 x1 x2
 refine Fact.sq fun K14 hK14 => ?_
 refine rg ?_
 refine fp fun K Z => ?_
 go_simp
 apply Z.out; clear Z K
 refine Fact.z hf fun fr1 hf1 hT => ?_
 have hKp : _ ∧ _ ∧ _ ∧ _ ∧ _ := ⟨hT 3, hT 6, hT 7, hT 8, hT 9⟩
 simp (decide := true) only [Fact.G, hf.size, reduceIte, s3, s6, s7, s8] at hKp
 replace hf := hf1; clear hT hf1 s3 s6 s7 s8
 obtain ⟨s3, s6, s7, s8, s9⟩ := hKp
 refine nx (hK14 _ _ ?_)
 refine wp_block ?_
 refine wp_loop_ghost (fun gk2 fr w2 => ∃ (k : Nat), gk2 = s.arcs.length - k ∧ k ≤ s.arcs.length ∧ Fact.Fr 95 fr ∧ fr.tmps[3]? = some (.pointer (some ⟨w.heap.size, 0, none⟩)) ∧ fr.tmps[6]? = some (.string (bl (L1 ++ arcsB i (s.arcs.take k)))) ∧ fr.tmps[7]? = some (.int .i64 i) ∧ fr.tmps[8]? = some (.pointer (some ⟨wr.heap.size, 0, none⟩)) ∧ fr.tmps[9]? = some (.int .i64 k) ∧ w2.cell? ⟨wr.heap.size, 0, none⟩ = some (.slice A2 s.arcs.length c2) ∧ Below W5.heap.size W5 w2) (s.arcs.length) ?_ ?_
 · (
 exact ⟨0, rfl, Nat.zero_le _, hf, s3, by rw [s6]; simp [arcsB], s7, s8, s9, x0, hbq⟩)
 · (
 clear hf s3 s6 s7 s8 s9
 clear x0 hbq
 rintro gk2 fr w2 ⟨k, hk2, hki, hf, s3, s6, s7, s8, s9, x0, hbq⟩
 have HK2 := Lib.hid hk2; clear hk2
 have hag := arcsB_le (l := s.arcs) i k hos.2.2 (by omega : i ≤ 1000000)
 obtain ⟨L2, hL2⟩ : ∃ x, L1 ++ arcsB i (s.arcs.take k) = x := ⟨_, rfl⟩
 rw [hL2] at s6
 have hl2 : L2.length ≤ 488310000 := by rw [← hL2, List.length_append]; omega
 have HL2 := Lib.hid hL2; clear hL2 hag
 have hzl2 := bl_size L2
 refine Fact.sq fun K15 hK15 => ?_
 refine Fact.sq fun K16 hK16 => ?_
 refine rg ?_
 have b60 := hf.b 60
 have b61 := hf.b 61
 have b62 := hf.b 62
 have b63 := hf.b 63
 refine fp fun K Z => ?_
 go_simp
 apply Z.out; clear Z K
 refine fp fun K Z => ?_
 go_simp
 apply Z.out; clear Z K
 refine fp fun K Z => ?_
 go_simp
 apply Z.out; clear Z K
 refine fp fun K Z => ?_
 go_simp
 apply Z.out; clear Z K
 refine fp fun K Z => ?_
 go_simp
 apply Z.out; clear Z K
 refine Fact.z hf fun fr1 hf1 hT => ?_
 have hKp : _ ∧ _ ∧ _ ∧ _ ∧ _ ∧ _ := ⟨hT 3, hT 6, hT 7, hT 8, hT 9, hT 64⟩
 simp (decide := true) only [Fact.G, hf.size, reduceIte, s3, s6, s7, s8, s9] at hKp
 replace hf := hf1; clear hT hf1 s3 s6 s7 s8 s9 b60 b61 b62 b63
 obtain ⟨s3, s6, s7, s8, s9, s64⟩ := hKp
 refine nx (hK16 _ _ ?_)
 refine Fact.cond_s s64 (fun hq2 => ?_) (fun hq2 => ?_)
 · (
 have hklt : k < s.arcs.length := by have h9 := of_decide_eq_true hq2; omega
 clear hq2
 obtain ⟨a, hka⟩ : ∃ a, s.arcs[k]? = some a := ⟨_, List.getElem?_eq_getElem hklt⟩
 obtain ⟨b3, off3, rfl, hbl, y0, y1, y2⟩ := (hra.later hbq).at' hka
 have hto := hms.2 a (List.mem_of_getElem? hka)
 have hoa := hos.2.2 a (List.mem_of_getElem? hka)
 have hab := hoa.1
 have hao64 : a.out < M64 := hoa.2.1
 have hao := hoa.2.1
 have hte := arcsB_take (i := i) hka
 obtain ⟨q, hq9⟩ : ∃ q : Nat, a.to = (q : Int) := ⟨a.to.toNat, by omega⟩
 obtain ⟨dd, hdd⟩ : ∃ d, i - q = d := ⟨_, rfl⟩
 have hqi : q < i := by omega
 have hdd64 : dd < M64 := by unfold M64; omega
 have hdd9 := hdd64; unfold M64 at hdd9
 rw [hq9] at y2
 have harc : arcB i a = a.byte :: (numB a.out ++ numB dd) := by unfold arcB; rw [numsB_two, hq9, Int.toNat_natCast, hdd]
 have z6 := numB_bl hao64; have z7 := numB_bl hdd64
 obtain ⟨L3, hL3⟩ : ∃ x, L2 ++ [a.byte] = x := ⟨_, rfl⟩
 obtain ⟨L4, hL4⟩ : ∃ x, L3 ++ numB a.out = x := ⟨_, rfl⟩
 have hl3 : L3.length ≤ 488310001 := by rw [← hL3, List.length_append, List.length_cons, List.length_nil]; omega
 have hl4 : L4.length ≤ 488310010 := by rw [← hL4, List.length_append]; rw [bl_size] at z6; omega
 have hzl3 := bl_size L3; have hzl4 := bl_size L4
 have HL3 := Lib.hid hL3; have HL4 := Lib.hid hL4; clear hL3 hL4
 have HTE := Lib.hid hte; have HDD := Lib.hid hdd; have HARC := Lib.hid harc; clear hte hdd harc hka hq9
 refine wp_skip ?_
 refine nx (hK15 _ _ ?_)
 refine Fact.sq fun K17 hK17 => ?_
 refine wp_block ?_
 refine Fact.sq fun K18 hK18 => ?_
 refine rg ?_
 have b67 := hf.b 67
 have b68 := hf.b 68
 have b69 := hf.b 69
 have b70 := hf.b 70
 have b71 := hf.b 71
 have b10 := hf.b 10
 refine fp fun K Z => ?_
 go_simp
 apply Z.out; clear Z K
 refine fp fun K Z => ?_
 go_simp
 apply Z.out; clear Z K
 refine fp fun K Z => ?_
 go_simp
 apply Z.out; clear Z K
 refine fp fun K Z => ?_
 go_simp
 try rw [if_pos (by omega)]
 apply Z.out; clear Z K
 refine fp fun K Z => ?_
 go_simp
 apply Z.out; clear Z K
 refine fp fun K Z => ?_
 go_simp
 apply Z.out; clear Z K
 refine fp fun K Z => ?_
 go_simp
 apply Z.out; clear Z K
 refine Fact.z hf fun fr1 hf1 hT => ?_
 have hKp : _ ∧ _ ∧ _ ∧ _ ∧ _ ∧ _ := ⟨hT 3, hT 6, hT 7, hT 8, hT 9, hT 10⟩
 simp (decide := true) only [Fact.G, hf.size, reduceIte, s3, s6, s7, s8, s9] at hKp
 replace hf := hf1; clear hT hf1 s3 s6 s7 s8 s9 s64 b67 b68 b69 b70 b71 b10
 obtain ⟨s3, s6, s7, s8, s9, s10⟩ := hKp
 obtain ⟨W7, hW7⟩ : ∃ W0, w2.alloc (.cells #[.int .u8 a.byte, .int .u64 a.out, .int .i64 (q : Nat)] 66) = W0 := ⟨_, rfl⟩
 try rw [hW7]
 obtain ⟨hb7, v0, v1, v2, -, -⟩ := box3 hW7
 clear hW7
 clear y0 y1 y2 hbl
 replace x0 := cL hb7 x0
 refine nx (hK18 _ _ ?_)
 refine Stab.tb 95 fun hok => ?_
 refine Stab.mvP (k := 0) (j := 17) s6 hf.size hok.out rfl rfl rfl (.inl rfl) [] (by kernel_rfl) (by kernel_rfl) ?_
 apply Stab.tq 1 _ hf hok
 · (
 intro fr1 w1 hh hd hk K Z
 have s10 := Stab.O hh s10
 clear hd
 go_simp
 exact Stab.k Z)
 apply Stab.tq 2 _ hf hok
 · (
 intro fr1 w1 hh hd hk K Z
 have s73 := Stab.v 1 0 hd hk []
 clear hd
 replace v0 := cL hh.ext v0
 replace v1 := cL hh.ext v1
 replace v2 := cL hh.ext v2
 replace x0 := cL hh.ext x0
 go_simp
 exact Stab.k Z)
 refine Stab.todo_op (k := 3) (n := 95) (PB1 a.byte) hf.size hok.out rfl (PB1.stable _) ?_ ?_
 · (
 intro fr1 w1 hh hd hk K Z
 refine Stab.pl ?_
 have s74 := Stab.v 2 0 hd hk []
 clear hd
 go_simp
 exact Z.out _ rfl _ _ ((Below.refl _ _).alloc (Nat.le_refl _) _) (PB1.new _ _ _))
 apply Stab.tq 4 _ hf hok
 · (
 intro fr1 w1 hh hd hk K Z
 obtain ⟨x75, s75, hp75⟩ := Stab.use (j := 3) (m := 0) hd hk rfl [] (by kernel_rfl) rfl rfl rfl
 obtain ⟨b75, hv75, hc75⟩ := hp75
 subst hv75
 clear hd
 have hcv := conv_one hc75
 go_simp
 exact Stab.k Z)
 apply Stab.tq 5 _ hf hok
 · (
 intro fr1 w1 hh hd hk K Z
 have s72 := Stab.v 0 4 hd hk []
 have s76 := Stab.v 4 0 hd hk []
 clear hd
 go_simp
 try simp (disch := omega) only [Fact.W]
 rw [if_neg (by rw [show (bl [a.byte]).size = 1 by rw [bl_size]; rfl]; omega)]
 try rw [Oper.upon_value]
 rw [← bl_append, HL3.out]
 exact Stab.k Z)
 apply Stab.tq 6 _ hf hok
 · (
 intro fr1 w1 hh hd hk K Z
 have s10 := Stab.O hh s10
 clear hd
 go_simp
 exact Stab.k Z)
 apply Stab.tq 7 _ hf hok
 · (
 intro fr1 w1 hh hd hk K Z
 have s78 := Stab.v 6 0 hd hk []
 clear hd
 replace v0 := cL hh.ext v0
 replace v1 := cL hh.ext v1
 replace v2 := cL hh.ext v2
 replace x0 := cL hh.ext x0
 go_simp
 exact Stab.k Z)
 apply Stab.tq 8 _ hf hok
 · (
 intro fr1 w1 hh hd hk K Z
 have s79 := Stab.v 7 0 hd hk []
 clear hd
 replace v0 := cL hh.ext v0
 replace v1 := cL hh.ext v1
 replace v2 := cL hh.ext v2
 replace x0 := cL hh.ext x0
 go_simp
 go_at_call 24; refine (rone w1 a.out hao64).mono ?_; rintro e w2 ⟨rfl, hb⟩
 exact Z.out _ rfl _ _ hb rfl)
 apply Stab.tq 9 _ hf hok
 · (
 intro fr1 w1 hh hd hk K Z
 have s77 := Stab.v 5 3 hd hk []
 have s80 := Stab.v 8 0 hd hk []
 clear hd
 go_simp
 try simp (disch := omega) only [Fact.W]
 rw [if_neg (by omega)]
 try rw [Oper.upon_value]
 rw [← bl_append, HL4.out]
 exact Stab.k Z)
 refine Stab.mO 10 s7 hf hok ?_
 apply Stab.tq 11 _ hf hok
 · (
 intro fr1 w1 hh hd hk K Z
 have s10 := Stab.O hh s10
 clear hd
 go_simp
 exact Stab.k Z)
 apply Stab.tq 12 _ hf hok
 · (
 intro fr1 w1 hh hd hk K Z
 have s83 := Stab.v 11 0 hd hk []
 clear hd
 replace v0 := cL hh.ext v0
 replace v1 := cL hh.ext v1
 replace v2 := cL hh.ext v2
 replace x0 := cL hh.ext x0
 go_simp
 exact Stab.k Z)
 apply Stab.tq 13 _ hf hok
 · (
 intro fr1 w1 hh hd hk K Z
 have s82 := Stab.v 10 2 hd hk []
 have s84 := Stab.v 12 0 hd hk []
 clear hd
 go_simp
 try simp (disch := omega) only [Fact.W]
 rw [show ((i : Nat) : Int) - ((q : Nat) : Int) = ((dd : Nat) : Int) by have := HDD.out; omega]
 exact Stab.k Z)
 apply Stab.tq 14 _ hf hok
 · (
 intro fr1 w1 hh hd hk K Z
 have s85 := Stab.v 13 0 hd hk []
 clear hd
 go_simp
 try rw [Fact.wrap_u64 (by omega) (by omega)]
 exact Stab.k Z)
 apply Stab.tq 15 _ hf hok
 · (
 intro fr1 w1 hh hd hk K Z
 have s86 := Stab.v 14 0 hd hk []
 clear hd
 replace v0 := cL hh.ext v0
 replace v1 := cL hh.ext v1
 replace v2 := cL hh.ext v2
 replace x0 := cL hh.ext x0
 go_simp
 go_at_call 24; refine (rone w1 dd hdd64).mono ?_; rintro e w2 ⟨rfl, hb⟩
 exact Z.out _ rfl _ _ hb rfl)
 apply Stab.tq 16 _ hf hok
 · (
 intro fr1 w1 hh hd hk K Z
 have s81 := Stab.v 9 6 hd hk []
 have s87 := Stab.v 15 0 hd hk []
 clear hd
 go_simp
 try simp (disch := omega) only [Fact.W]
 rw [if_neg (by omega)]
 try rw [Oper.upon_value]
 rw [← bl_append]
 exact Stab.k Z)
 refine Stab.mN 17 16 0 hf hok [] ?_
 refine Stab.tf hf hok fun fr1 w1 hh hg => ?_
 replace s3 := Stab.O hh s3
 clear s6; have s6 := Stab.f 17 0 hg
 replace s7 := Stab.O hh s7
 replace s8 := Stab.O hh s8
 replace s9 := Stab.O hh s9
 have hf1 := hh.fr hf
 have hx := hh.ext
 replace v0 := cL hx v0
 replace v1 := cL hx v1
 replace v2 := cL hx v2
 replace x0 := cL hx x0
 clear hg hh hf hok s10
 have hf := hf1; clear hf1
 have hbq2 := hbq.trans ((hb7.trans (hx.mono hb7.size)).mono hbq.size)
 have hnew : L4 ++ numB dd = L1 ++ arcsB i (s.arcs.take (k + 1)) := by rw [HTE.out, HARC.out, ← List.append_assoc, HL2.out, ← HL4.out, ← HL3.out]; simp
 rw [hnew] at s6
 clear hnew
 refine Fact.block_normal ?_
 refine nx (hK17 _ _ ?_)
 refine rg ?_
 have b65 := hf.b 65
 have b66 := hf.b 66
 refine fp fun K Z => ?_
 go_simp
 apply Z.out; clear Z K
 refine fp fun K Z => ?_
 go_simp
 try simp (disch := omega) only [Fact.W]
 apply Z.out; clear Z K
 refine fp fun K Z => ?_
 go_simp
 apply Z.out; clear Z K
 refine Fact.z hf fun fr1 hf1 hT => ?_
 have hKp : _ ∧ _ ∧ _ ∧ _ ∧ _ := ⟨hT 3, hT 6, hT 7, hT 8, hT 9⟩
 simp (decide := true) only [Fact.G, hf.size, reduceIte, s3, s6, s7, s8] at hKp
 replace hf := hf1; clear hT hf1 s3 s6 s7 s8 s9 b65 b66
 obtain ⟨s3, s6, s7, s8, s9⟩ := hKp
 refine Fact.then_normal ?_
 exact ⟨_, by have := HK2.out; omega, k + 1, rfl, by omega, hf, s3, s6, s7, s8, by rw [s9]; rfl, x0, hbq2⟩)
 · (
 have hke : k = s.arcs.length := by have h9 := of_decide_eq_false hq2; omega
 have hfin2 : L2 = L0 ++ statesB 0 (ss.take (i + 1)) := by rw [← HL2.out, ← HL1.out, ← HL.out, HST.out, hke, List.take_length]; unfold stB; simp
 have HFN := Lib.hid hfin2; clear hfin2 hq2 hke
 replace hr1 := hr1.later hbq; replace e0 := cL hbq e0; replace e1 := cL hbq e1; replace hbt := hbt.trans (hbq.mono hbt.size)
 refine wp_exit ?_
 refine Fact.then_exit ?_
 refine Fact.then_exit ?_
 refine Fact.block_exit ?_
 refine Fact.block_normal ?_
 refine nx (hK10 _ _ ?_)
 refine rg ?_
 have b30 := hf.b 30
 have b31 := hf.b 31
 refine fp fun K Z => ?_
 go_simp
 apply Z.out; clear Z K
 refine fp fun K Z => ?_
 go_simp
 try simp (disch := omega) only [Fact.W]
 apply Z.out; clear Z K
 refine fp fun K Z => ?_
 go_simp
 apply Z.out; clear Z K
 refine Fact.z hf fun fr1 hf1 hT => ?_
 have hKp : _ ∧ _ ∧ _ := ⟨hT 3, hT 6, hT 7⟩
 simp (decide := true) only [Fact.G, hf.size, reduceIte, s3, s6] at hKp
 replace hf := hf1; clear hT hf1 s3 s6 s7 s8 s9 s64 b30 b31
 obtain ⟨s3, s6, s7⟩ := hKp
 refine Fact.then_normal ?_
 exact ⟨_, by have := HK.out; omega, i + 1, rfl, by omega, hf, s3, by rw [← HFN.out]; exact s6, by rw [s7]; rfl, e0, e1, hr1, hbt⟩))))
 · (
 have hie : i = ss.length := by have h9 := of_decide_eq_false hq; omega
 have HLL := HL.out
 rw [hie, List.take_length] at HLL
 have HLE := Lib.hid HLL; clear HLL hie hq
 have hzl := bl_size L
 refine wp_exit ?_
 refine Fact.then_exit ?_
 refine Fact.then_exit ?_
 refine Fact.block_exit ?_
 refine nx (hK6 _ _ ?_)
 refine Fact.sq fun K19 hK19 => ?_
 refine rg ?_
 have b89 := hf.b 89
 have b90 := hf.b 90
 have b91 := hf.b 91
 have b92 := hf.b 92
 have b93 := hf.b 93
 have b94 := hf.b 94
 refine fp fun K Z => ?_
 go_simp
 apply Z.out; clear Z K
 refine fp fun K Z => ?_
 go_simp
 apply Z.out; clear Z K
 refine fp fun K Z => ?_
 go_simp
 apply Z.out; clear Z K
 refine fp fun K Z => ?_
 go_simp
 go_at_call 24; refine (rone wr init hi64).mono ?_; rintro e w2 ⟨rfl, hb2⟩
 replace hbt := hbt.trans (hb2.mono hbt.size)
 try dsimp only
 apply Z.out; clear Z K
 refine fp fun K Z => ?_
 go_simp
 try simp (disch := omega) only [Fact.W]
 rw [if_neg (by omega)]
 try rw [Oper.upon_value]
 rw [← bl_append]
 obtain ⟨BB, hBB⟩ : ∃ x, L ++ numB init = x := ⟨_, rfl⟩
 rw [hBB]
 have hbz : (bl BB).size ≤ 900000000 := by rw [← hBB, bl_size, List.length_append]; rw [bl_size] at z3; omega
 have HBB := Lib.hid hBB; clear hBB
 apply Z.out; clear Z K
 refine fp fun K Z => ?_
 go_simp
 go_at_call 12; refine (rseal w2 (bl BB) hbz).mono ?_; rintro e w3 ⟨rfl, hb3⟩
 replace hbt := hbt.trans (hb3.mono hbt.size)
 try dsimp only
 apply Z.out; clear Z K
 refine fp fun K Z => ?_
 go_simp
 apply Z.out; clear Z K
 refine fp fun K Z => ?_
 go_simp
 apply Z.out; clear Z K
 refine Fact.z hf fun fr1 hf1 hT => ?_
 have hKp : _ ∧ _ := ⟨hT 4, hT 5⟩
 simp (decide := true) only [Fact.G, hf.size, reduceIte] at hKp
 replace hf := hf1; clear hT hf1 s3 s6 s7 s29 b89 b90 b91 b92 b93 b94
 obtain ⟨s4, s5⟩ := hKp
 refine nx (hK19 _ _ ?_)
 refine wp_ret ?_
 have hbody : BB = bodyB (n : Int).toNat init ss := by rw [← HBB.out, ← HLE.out, ← HL0.out]; unfold bodyB; rw [numsB_two, numsB_one]; simp
 have hsb : Small BB := by rw [hbody]; exact bodyB_small HO.out HML.out hlen (by simpa using hen) hinit
 refine Fact.ret2 rfl hf s4 s5 ⟨?_, hbt⟩
 rw [wl_bl hsb, hbody]
 unfold putR
 rw [if_pos HM.out]
 rfl)))
end Dw
end Go.Proofs.YtdkbgbdgmihlmaaDoor
