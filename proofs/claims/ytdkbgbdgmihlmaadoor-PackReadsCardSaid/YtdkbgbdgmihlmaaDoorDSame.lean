/- Dawg: whether transducers are alike. -/
import Derived.Test.YtdkbgbdgmihlmaaDoorDAlike
import Derived.Test.YtdkbgbdgmihlmaaDoorTools
namespace Go.Proofs.YtdkbgbdgmihlmaaDoor
open Go.RowKit
set_option linter.unusedSimpArgs false
set_option linter.unusedVariables false
set_option linter.unnecessarySimpa false
namespace Dw

theorem two_boxes2 {w W : World} {x y x' y' : Value} {t t' : TypeId} (h : (w.alloc (.cells #[x, y] t)).alloc (.cells #[x', y'] t') = W) : Below w.heap.size w W ∧ W.cell? ⟨w.heap.size, 0, none⟩ = some x ∧ W.cell? ⟨w.heap.size, 1, none⟩ = some y ∧
    W.cell? ⟨w.heap.size + 1, 0, none⟩ = some x' ∧ W.cell? ⟨w.heap.size + 1, 1, none⟩ = some y' := by
  obtain ⟨W0, hW0⟩ : ∃ W0, w.alloc (.cells #[x, y] t) = W0 := ⟨_, rfl⟩
  rw [hW0] at h
  obtain ⟨h1, h2, h3, _, h5⟩ := box2 hW0
  obtain ⟨k1, k2, k3, _, k5⟩ := box2 h
  rw [h5] at k2 k3
  exact ⟨h1.trans (k1.mono h1.size), cL k1 h2, cL k1 h3, k2, k3⟩
set_option maxHeartbeats 4000000 in
set_option maxRecDepth 100000 in
theorem same_init (w : World) (a b : List State) (x y : Nat) (va vb : Value) (ha : RS w va a) (hb : RS w vb b) (hla : ∀ s ∈ a, s.arcs.length ≤ 4611686018427387904) (hlb : ∀ s ∈ b, s.arcs.length ≤ 4611686018427387904) (hlen : a.length ≤ 4611686018427387904) (hlenb : b.length ≤ 4611686018427387904) (h1 : ((x : Int) != (y : Int)) = true) : Calls Tryd.prog 16 #[.agg #[va, .int .u64 x], .agg #[vb, .int .u64 y]] w fun e w1 => e = .returned (.bool false) ∧ Below w.heap.size w w1 := by
 refine calls_of_wp Tryd.func16 rfl ?_
 refine Fact.en 39 fun fr hf hT => ?_
 have s0 := hT 0 _ rfl
 have s1 := hT 1 _ rfl
 clear hT
 have ha0 := ha; have hb0 := hb
 obtain ⟨Aa, ca, rfl, hca⟩ := ha.form
 obtain ⟨Ab, cb, rfl, hcb⟩ := hb.form
 clear ha hb
 have HLA := Lib.hid hla; have HLB := Lib.hid hlb; clear hla hlb
 have q1 : ((x : Int) != (y : Int)) = true := h1
 refine Fact.sq fun K1 hK1 => ?_
 refine rg ?_
 refine fp fun K Z => ?_
 go_simp
 apply Z.out; clear Z K
 refine fp fun K Z => ?_
 go_simp
 apply Z.out; clear Z K
 refine fp fun K Z => ?_
 go_simp
 apply Z.out; clear Z K
 refine Fact.z hf fun fr1 hf1 hT => ?_
 have hKp : _ ∧ _ := ⟨hT 2, hT 3⟩
 simp (decide := true) only [Fact.G, hf.size, reduceIte] at hKp
 replace hf := hf1; clear hT hf1 s0 s1
 obtain ⟨s2, s3⟩ := hKp
 obtain ⟨W1, hW1⟩ : ∃ W1, (w.alloc (.cells #[.slice Aa a.length ca, .int .u64 x] 25)).alloc (.cells #[.slice Ab b.length cb, .int .u64 y] 25) = W1 := ⟨_, rfl⟩
 try rw [hW1]
 obtain ⟨hbW, x0, x1, y0, y1⟩ := two_boxes2 hW1
 try simp only [World.size_alloc] at s3
 clear hW1
 have ha1 := ha0.later hbW; have hb1 := hb0.later hbW
 refine nx (hK1 _ _ ?_)
 refine Fact.sq fun K2 hK2 => ?_
 refine Fact.sq fun K3 hK3 => ?_
 refine rg ?_
 have b6 := hf.b 6
 have b7 := hf.b 7
 have b8 := hf.b 8
 have b9 := hf.b 9
 have b10 := hf.b 10
 have b11 := hf.b 11
 have b12 := hf.b 12
 have b13 := hf.b 13
 have b14 := hf.b 14
 have b15 := hf.b 15
 have b16 := hf.b 16
 have b17 := hf.b 17
 have b18 := hf.b 18
 refine fp fun K Z => ?_
 go_simp
 apply Z.out; clear Z K
 refine fp fun K Z => ?_
 go_simp
 apply Z.out; clear Z K
 refine fp fun K Z => ?_
 go_simp
 apply Z.out; clear Z K
 refine fp fun K Z => ?_
 go_simp
 apply Z.out; clear Z K
 refine fp fun K Z => ?_
 go_simp
 apply Z.out; clear Z K
 refine fp fun K Z => ?_
 go_simp
 apply Z.out; clear Z K
 refine sk 5 11 false ?_ ?_
 · (
 simp (decide := true) only [Fact.G, reduceIte, hf.size, q1, Fact.N])
 refine sk 5 11 false ?_ ?_
 · (
 simp (decide := true) only [Fact.G, reduceIte, hf.size, q1, Fact.N])
 refine sk 5 11 false ?_ ?_
 · (
 simp (decide := true) only [Fact.G, reduceIte, hf.size, q1, Fact.N])
 refine sk 5 11 false ?_ ?_
 · (
 simp (decide := true) only [Fact.G, reduceIte, hf.size, q1, Fact.N])
 refine sk 5 11 false ?_ ?_
 · (
 simp (decide := true) only [Fact.G, reduceIte, hf.size, q1, Fact.N])
 refine sk 5 11 false ?_ ?_
 · (
 simp (decide := true) only [Fact.G, reduceIte, hf.size, q1, Fact.N])
 refine sk 5 11 false ?_ ?_
 · (
 simp (decide := true) only [Fact.G, reduceIte, hf.size, q1, Fact.N])
 refine fp fun K Z => ?_
 go_simp
 apply Z.out; clear Z K
 refine Fact.z hf fun fr1 hf1 hT => ?_
 have hKp : _ ∧ _ ∧ _ := ⟨hT 2, hT 3, hT 19⟩
 simp (decide := true) only [Fact.G, hf.size, reduceIte, s2, s3] at hKp
 replace hf := hf1; clear hT hf1 s2 s3 b6 b7 b8 b9 b10 b11 b12 b13 b14 b15 b16 b17 b18
 obtain ⟨s2, s3, s19⟩ := hKp
 refine nx (hK3 _ _ ?_)
 refine Fact.cond_t s19 ?_
 refine Fact.sq fun K4 hK4 => ?_
 refine rg ?_
 refine fp fun K Z => ?_
 go_simp
 apply Z.out; clear Z K
 refine Fact.z hf fun fr1 hf1 hT => ?_
 have hKp := hT 4
 simp (decide := true) only [Fact.G, hf.size, reduceIte] at hKp
 replace hf := hf1; clear hT hf1 s2 s3 s19
 have s4 := hKp; clear hKp
 refine nx (hK4 _ _ ?_)
 refine wp_ret ?_
 refine Fact.then_ret ?_
 exact Fact.ret1 rfl hf s4 ⟨rfl, hbW⟩
set_option maxHeartbeats 4000000 in
set_option maxRecDepth 100000 in
theorem same_len (w : World) (a b : List State) (x y : Nat) (va vb : Value) (ha : RS w va a) (hb : RS w vb b) (hla : ∀ s ∈ a, s.arcs.length ≤ 4611686018427387904) (hlb : ∀ s ∈ b, s.arcs.length ≤ 4611686018427387904) (hlen : a.length ≤ 4611686018427387904) (hlenb : b.length ≤ 4611686018427387904) (h1 : ((x : Int) != (y : Int)) = false) (h2 : ((a.length : Int) != (b.length : Int)) = true) : Calls Tryd.prog 16 #[.agg #[va, .int .u64 x], .agg #[vb, .int .u64 y]] w fun e w1 => e = .returned (.bool false) ∧ Below w.heap.size w w1 := by
 refine calls_of_wp Tryd.func16 rfl ?_
 refine Fact.en 39 fun fr hf hT => ?_
 have s0 := hT 0 _ rfl
 have s1 := hT 1 _ rfl
 clear hT
 have ha0 := ha; have hb0 := hb
 obtain ⟨Aa, ca, rfl, hca⟩ := ha.form
 obtain ⟨Ab, cb, rfl, hcb⟩ := hb.form
 clear ha hb
 have HLA := Lib.hid hla; have HLB := Lib.hid hlb; clear hla hlb
 have q1 : ((x : Int) != (y : Int)) = false := h1
 have q2 : ((a.length : Int) != (b.length : Int)) = true := h2
 refine Fact.sq fun K1 hK1 => ?_
 refine rg ?_
 refine fp fun K Z => ?_
 go_simp
 apply Z.out; clear Z K
 refine fp fun K Z => ?_
 go_simp
 apply Z.out; clear Z K
 refine fp fun K Z => ?_
 go_simp
 apply Z.out; clear Z K
 refine Fact.z hf fun fr1 hf1 hT => ?_
 have hKp : _ ∧ _ := ⟨hT 2, hT 3⟩
 simp (decide := true) only [Fact.G, hf.size, reduceIte] at hKp
 replace hf := hf1; clear hT hf1 s0 s1
 obtain ⟨s2, s3⟩ := hKp
 obtain ⟨W1, hW1⟩ : ∃ W1, (w.alloc (.cells #[.slice Aa a.length ca, .int .u64 x] 25)).alloc (.cells #[.slice Ab b.length cb, .int .u64 y] 25) = W1 := ⟨_, rfl⟩
 try rw [hW1]
 obtain ⟨hbW, x0, x1, y0, y1⟩ := two_boxes2 hW1
 try simp only [World.size_alloc] at s3
 clear hW1
 have ha1 := ha0.later hbW; have hb1 := hb0.later hbW
 refine nx (hK1 _ _ ?_)
 refine Fact.sq fun K2 hK2 => ?_
 refine Fact.sq fun K3 hK3 => ?_
 refine rg ?_
 have b6 := hf.b 6
 have b7 := hf.b 7
 have b8 := hf.b 8
 have b9 := hf.b 9
 have b10 := hf.b 10
 have b11 := hf.b 11
 have b12 := hf.b 12
 have b13 := hf.b 13
 have b14 := hf.b 14
 have b15 := hf.b 15
 have b16 := hf.b 16
 have b17 := hf.b 17
 have b18 := hf.b 18
 refine fp fun K Z => ?_
 go_simp
 apply Z.out; clear Z K
 refine fp fun K Z => ?_
 go_simp
 apply Z.out; clear Z K
 refine fp fun K Z => ?_
 go_simp
 apply Z.out; clear Z K
 refine fp fun K Z => ?_
 go_simp
 apply Z.out; clear Z K
 refine fp fun K Z => ?_
 go_simp
 apply Z.out; clear Z K
 refine fp fun K Z => ?_
 go_simp
 apply Z.out; clear Z K
 refine og 5 11 false ?_ fun K Z => ?_
 · (
 simp (decide := true) only [Fact.G, reduceIte, hf.size, q1, q2, Fact.N])
 go_simp
 apply Z.out; clear Z K
 refine og 5 11 false ?_ fun K Z => ?_
 · (
 simp (decide := true) only [Fact.G, reduceIte, hf.size, q1, q2, Fact.N])
 go_simp
 apply Z.out; clear Z K
 refine og 5 11 false ?_ fun K Z => ?_
 · (
 simp (decide := true) only [Fact.G, reduceIte, hf.size, q1, q2, Fact.N])
 go_simp
 apply Z.out; clear Z K
 refine og 5 11 false ?_ fun K Z => ?_
 · (
 simp (decide := true) only [Fact.G, reduceIte, hf.size, q1, q2, Fact.N])
 go_simp
 apply Z.out; clear Z K
 refine og 5 11 false ?_ fun K Z => ?_
 · (
 simp (decide := true) only [Fact.G, reduceIte, hf.size, q1, q2, Fact.N])
 go_simp
 apply Z.out; clear Z K
 refine og 5 11 false ?_ fun K Z => ?_
 · (
 simp (decide := true) only [Fact.G, reduceIte, hf.size, q1, q2, Fact.N])
 go_simp
 apply Z.out; clear Z K
 refine og 5 11 false ?_ fun K Z => ?_
 · (
 simp (decide := true) only [Fact.G, reduceIte, hf.size, q1, q2, Fact.N])
 go_simp
 apply Z.out; clear Z K
 refine fp fun K Z => ?_
 go_simp
 apply Z.out; clear Z K
 refine Fact.z hf fun fr1 hf1 hT => ?_
 have hKp : _ ∧ _ ∧ _ := ⟨hT 2, hT 3, hT 19⟩
 simp (decide := true) only [Fact.G, hf.size, reduceIte, s2, s3] at hKp
 replace hf := hf1; clear hT hf1 s2 s3 b6 b7 b8 b9 b10 b11 b12 b13 b14 b15 b16 b17 b18
 obtain ⟨s2, s3, s19⟩ := hKp
 refine nx (hK3 _ _ ?_)
 refine Fact.cond_t s19 ?_
 refine Fact.sq fun K4 hK4 => ?_
 refine rg ?_
 refine fp fun K Z => ?_
 go_simp
 apply Z.out; clear Z K
 refine Fact.z hf fun fr1 hf1 hT => ?_
 have hKp := hT 4
 simp (decide := true) only [Fact.G, hf.size, reduceIte] at hKp
 replace hf := hf1; clear hT hf1 s2 s3 s19
 have s4 := hKp; clear hKp
 refine nx (hK4 _ _ ?_)
 refine wp_ret ?_
 refine Fact.then_ret ?_
 exact Fact.ret1 rfl hf s4 ⟨rfl, hbW⟩
set_option maxHeartbeats 4000000 in
set_option maxRecDepth 100000 in
theorem same_all (w : World) (a b : List State) (x y : Nat) (va vb : Value) (ha : RS w va a) (hb : RS w vb b) (hla : ∀ s ∈ a, s.arcs.length ≤ 4611686018427387904) (hlb : ∀ s ∈ b, s.arcs.length ≤ 4611686018427387904) (hlen : a.length ≤ 4611686018427387904) (hlenb : b.length ≤ 4611686018427387904) (h1 : ((x : Int) != (y : Int)) = false) (h2 : ((a.length : Int) != (b.length : Int)) = false) : Calls Tryd.prog 16 #[.agg #[va, .int .u64 x], .agg #[vb, .int .u64 y]] w fun e w1 => e = .returned (.bool (decide (a = b))) ∧ Below w.heap.size w w1 := by
 refine calls_of_wp Tryd.func16 rfl ?_
 refine Fact.en 39 fun fr hf hT => ?_
 have s0 := hT 0 _ rfl
 have s1 := hT 1 _ rfl
 clear hT
 have ha0 := ha; have hb0 := hb
 obtain ⟨Aa, ca, rfl, hca⟩ := ha.form
 obtain ⟨Ab, cb, rfl, hcb⟩ := hb.form
 clear ha hb
 have HLA := Lib.hid hla; have HLB := Lib.hid hlb; clear hla hlb
 have q1 : ((x : Int) != (y : Int)) = false := h1
 have q2 : ((a.length : Int) != (b.length : Int)) = false := h2
 refine Fact.sq fun K1 hK1 => ?_
 refine rg ?_
 refine fp fun K Z => ?_
 go_simp
 apply Z.out; clear Z K
 refine fp fun K Z => ?_
 go_simp
 apply Z.out; clear Z K
 refine fp fun K Z => ?_
 go_simp
 apply Z.out; clear Z K
 refine Fact.z hf fun fr1 hf1 hT => ?_
 have hKp : _ ∧ _ := ⟨hT 2, hT 3⟩
 simp (decide := true) only [Fact.G, hf.size, reduceIte] at hKp
 replace hf := hf1; clear hT hf1 s0 s1
 obtain ⟨s2, s3⟩ := hKp
 obtain ⟨W1, hW1⟩ : ∃ W1, (w.alloc (.cells #[.slice Aa a.length ca, .int .u64 x] 25)).alloc (.cells #[.slice Ab b.length cb, .int .u64 y] 25) = W1 := ⟨_, rfl⟩
 try rw [hW1]
 obtain ⟨hbW, x0, x1, y0, y1⟩ := two_boxes2 hW1
 try simp only [World.size_alloc] at s3
 clear hW1
 have ha1 := ha0.later hbW; have hb1 := hb0.later hbW
 refine nx (hK1 _ _ ?_)
 refine Fact.sq fun K2 hK2 => ?_
 refine Fact.sq fun K3 hK3 => ?_
 refine rg ?_
 have b6 := hf.b 6
 have b7 := hf.b 7
 have b8 := hf.b 8
 have b9 := hf.b 9
 have b10 := hf.b 10
 have b11 := hf.b 11
 have b12 := hf.b 12
 have b13 := hf.b 13
 have b14 := hf.b 14
 have b15 := hf.b 15
 have b16 := hf.b 16
 have b17 := hf.b 17
 have b18 := hf.b 18
 refine fp fun K Z => ?_
 go_simp
 apply Z.out; clear Z K
 refine fp fun K Z => ?_
 go_simp
 apply Z.out; clear Z K
 refine fp fun K Z => ?_
 go_simp
 apply Z.out; clear Z K
 refine fp fun K Z => ?_
 go_simp
 apply Z.out; clear Z K
 refine fp fun K Z => ?_
 go_simp
 apply Z.out; clear Z K
 refine fp fun K Z => ?_
 go_simp
 apply Z.out; clear Z K
 refine og 5 11 false ?_ fun K Z => ?_
 · (
 simp (decide := true) only [Fact.G, reduceIte, hf.size, q1, q2, Fact.N])
 go_simp
 apply Z.out; clear Z K
 refine og 5 11 false ?_ fun K Z => ?_
 · (
 simp (decide := true) only [Fact.G, reduceIte, hf.size, q1, q2, Fact.N])
 go_simp
 apply Z.out; clear Z K
 refine og 5 11 false ?_ fun K Z => ?_
 · (
 simp (decide := true) only [Fact.G, reduceIte, hf.size, q1, q2, Fact.N])
 go_simp
 apply Z.out; clear Z K
 refine og 5 11 false ?_ fun K Z => ?_
 · (
 simp (decide := true) only [Fact.G, reduceIte, hf.size, q1, q2, Fact.N])
 go_simp
 apply Z.out; clear Z K
 refine og 5 11 false ?_ fun K Z => ?_
 · (
 simp (decide := true) only [Fact.G, reduceIte, hf.size, q1, q2, Fact.N])
 go_simp
 apply Z.out; clear Z K
 refine og 5 11 false ?_ fun K Z => ?_
 · (
 simp (decide := true) only [Fact.G, reduceIte, hf.size, q1, q2, Fact.N])
 go_simp
 apply Z.out; clear Z K
 refine og 5 11 false ?_ fun K Z => ?_
 · (
 simp (decide := true) only [Fact.G, reduceIte, hf.size, q1, q2, Fact.N])
 go_simp
 apply Z.out; clear Z K
 refine fp fun K Z => ?_
 go_simp
 apply Z.out; clear Z K
 refine Fact.z hf fun fr1 hf1 hT => ?_
 have hKp : _ ∧ _ ∧ _ := ⟨hT 2, hT 3, hT 19⟩
 simp (decide := true) only [Fact.G, hf.size, reduceIte, s2, s3] at hKp
 replace hf := hf1; clear hT hf1 s2 s3 b6 b7 b8 b9 b10 b11 b12 b13 b14 b15 b16 b17 b18
 obtain ⟨s2, s3, s19⟩ := hKp
 refine nx (hK3 _ _ ?_)
 refine Fact.cond_f s19 ?_
 have hl : a.length = b.length := by have := bne_eq_false_iff_eq.1 h2; omega
 have HL := Lib.hid hl; clear hl
 clear h1 h2 q1 q2 x1 y1 ha0 hb0
 refine wp_skip ?_
 refine nx (hK2 _ _ ?_)
 refine Fact.sq fun K4 hK4 => ?_
 refine Fact.sq fun K5 hK5 => ?_
 refine rg ?_
 refine fp fun K Z => ?_
 go_simp
 apply Z.out; clear Z K
 refine Fact.z hf fun fr1 hf1 hT => ?_
 have hKp : _ ∧ _ ∧ _ := ⟨hT 2, hT 3, hT 5⟩
 simp (decide := true) only [Fact.G, hf.size, reduceIte, s2, s3] at hKp
 replace hf := hf1; clear hT hf1 s2 s3 s19
 obtain ⟨s2, s3, s5⟩ := hKp
 refine nx (hK5 _ _ ?_)
 refine wp_block ?_
 refine wp_loop_ghost (fun gk fr wr => ∃ (i : Nat), gk = a.length - i ∧ i ≤ a.length ∧ Fact.Fr 39 fr ∧ fr.tmps[2]? = some (.pointer (some ⟨w.heap.size, 0, none⟩)) ∧ fr.tmps[3]? = some (.pointer (some ⟨w.heap.size + 1, 0, none⟩)) ∧ fr.tmps[5]? = some (.int .i64 i) ∧ a.take i = b.take i ∧ Below W1.heap.size W1 wr) (a.length) ?_ ?_
 · (
 exact ⟨0, rfl, Nat.zero_le _, hf, s2, s3, s5, rfl, Below.refl _ _⟩)
 · (
 clear hf s2 s3 s5
 rintro gk fr wr ⟨i, hk, hi, hf, s2, s3, s5, hta, hb⟩
 have HK := Lib.hid hk; have HT := Lib.hid hta; clear hk hta
 have x0r := cL hb x0; have y0r := cL hb y0
 refine Fact.sq fun K6 hK6 => ?_
 refine Fact.sq fun K7 hK7 => ?_
 refine rg ?_
 have b20 := hf.b 20
 have b21 := hf.b 21
 have b22 := hf.b 22
 have b23 := hf.b 23
 refine fp fun K Z => ?_
 go_simp
 apply Z.out; clear Z K
 refine fp fun K Z => ?_
 go_simp
 apply Z.out; clear Z K
 refine fp fun K Z => ?_
 go_simp
 apply Z.out; clear Z K
 refine fp fun K Z => ?_
 go_simp
 apply Z.out; clear Z K
 refine fp fun K Z => ?_
 go_simp
 apply Z.out; clear Z K
 refine Fact.z hf fun fr1 hf1 hT => ?_
 have hKp : _ ∧ _ ∧ _ ∧ _ := ⟨hT 2, hT 3, hT 5, hT 24⟩
 simp (decide := true) only [Fact.G, hf.size, reduceIte, s2, s3, s5] at hKp
 replace hf := hf1; clear hT hf1 s2 s3 s5 b20 b21 b22 b23
 obtain ⟨s2, s3, s5, s24⟩ := hKp
 refine nx (hK7 _ _ ?_)
 refine Fact.cond_s s24 (fun hq => ?_) (fun hq => ?_)
 · (
 have hlt : i < a.length := by have h9 := of_decide_eq_true hq; omega
 have hltb : i < b.length := by have := HL.out; omega
 have HQ := Lib.hid hq; clear hq
 obtain ⟨p, hp⟩ : ∃ p, a[i]? = some p := ⟨_, List.getElem?_eq_getElem hlt⟩
 obtain ⟨q, hqb⟩ : ∃ q, b[i]? = some q := ⟨_, List.getElem?_eq_getElem (by have := HL.out; omega)⟩
 obtain ⟨g1, o1, av1, rfl, hs1⟩ := (ha1.later hb).at_ hp
 obtain ⟨g2, o2, av2, rfl, hs2⟩ := (hb1.later hb).at_ hqb
 have d0 := hs1.c0; have d1 := hs1.c1; have d2 := hs1.c2; have e0 := hs2.c0; have e1 := hs2.c1; have e2 := hs2.c2
 have hra1 := hs1.arcs; have hra2 := hs2.arcs
 have hl1 := HLA.out p (List.mem_of_getElem? hp); have hl2 := HLB.out q (List.mem_of_getElem? hqb)
 have HP := Lib.hid hp; have HB := Lib.hid hqb; clear hp hqb hs1 hs2
 refine wp_skip ?_
 refine nx (hK6 _ _ ?_)
 refine Fact.sq fun K8 hK8 => ?_
 refine wp_block ?_
 refine Fact.sq fun K9 hK9 => ?_
 refine Stab.tb 39 fun hok => ?_
 apply Stab.tq 0 _ hf hok
 · (
 intro fr1 w1 hh hd hk K Z
 have s2 := Stab.O hh s2
 clear hd
 go_simp
 exact Stab.k Z)
 apply Stab.tq 1 _ hf hok
 · (
 intro fr1 w1 hh hd hk K Z
 have s27 := Stab.v 0 0 hd hk []
 clear hd
 replace x0r := cL hh.ext x0r
 replace y0r := cL hh.ext y0r
 replace d0 := cL hh.ext d0
 replace d1 := cL hh.ext d1
 replace d2 := cL hh.ext d2
 replace e0 := cL hh.ext e0
 replace e1 := cL hh.ext e1
 replace e2 := cL hh.ext e2
 replace hra1 := hra1.later hh.ext
 replace hra2 := hra2.later hh.ext
 go_simp
 exact Stab.k Z)
 refine Stab.mO 2 s5 hf hok ?_
 apply Stab.tq 3 _ hf hok
 · (
 intro fr1 w1 hh hd hk K Z
 have s28 := Stab.v 1 1 hd hk []
 have s29 := Stab.v 2 0 hd hk []
 clear hd
 go_simp
 try rw [if_pos (by omega)]
 exact Stab.k Z)
 apply Stab.tq 4 _ hf hok
 · (
 intro fr1 w1 hh hd hk K Z
 have s30 := Stab.v 3 0 hd hk []
 clear hd
 replace x0r := cL hh.ext x0r
 replace y0r := cL hh.ext y0r
 replace d0 := cL hh.ext d0
 replace d1 := cL hh.ext d1
 replace d2 := cL hh.ext d2
 replace e0 := cL hh.ext e0
 replace e1 := cL hh.ext e1
 replace e2 := cL hh.ext e2
 replace hra1 := hra1.later hh.ext
 replace hra2 := hra2.later hh.ext
 go_simp
 exact Stab.k Z)
 apply Stab.tq 5 _ hf hok
 · (
 intro fr1 w1 hh hd hk K Z
 have s3 := Stab.O hh s3
 clear hd
 go_simp
 exact Stab.k Z)
 apply Stab.tq 6 _ hf hok
 · (
 intro fr1 w1 hh hd hk K Z
 have s32 := Stab.v 5 0 hd hk []
 clear hd
 replace x0r := cL hh.ext x0r
 replace y0r := cL hh.ext y0r
 replace d0 := cL hh.ext d0
 replace d1 := cL hh.ext d1
 replace d2 := cL hh.ext d2
 replace e0 := cL hh.ext e0
 replace e1 := cL hh.ext e1
 replace e2 := cL hh.ext e2
 replace hra1 := hra1.later hh.ext
 replace hra2 := hra2.later hh.ext
 go_simp
 exact Stab.k Z)
 refine Stab.mO 7 s5 hf hok ?_
 apply Stab.tq 8 _ hf hok
 · (
 intro fr1 w1 hh hd hk K Z
 have s33 := Stab.v 6 1 hd hk []
 have s34 := Stab.v 7 0 hd hk []
 clear hd
 go_simp
 try rw [if_pos (by omega)]
 exact Stab.k Z)
 apply Stab.tq 9 _ hf hok
 · (
 intro fr1 w1 hh hd hk K Z
 have s35 := Stab.v 8 0 hd hk []
 clear hd
 replace x0r := cL hh.ext x0r
 replace y0r := cL hh.ext y0r
 replace d0 := cL hh.ext d0
 replace d1 := cL hh.ext d1
 replace d2 := cL hh.ext d2
 replace e0 := cL hh.ext e0
 replace e1 := cL hh.ext e1
 replace e2 := cL hh.ext e2
 replace hra1 := hra1.later hh.ext
 replace hra2 := hra2.later hh.ext
 go_simp
 exact Stab.k Z)
 apply Stab.tq 10 _ hf hok
 · (
 intro fr1 w1 hh hd hk K Z
 have s31 := Stab.v 4 5 hd hk []
 have s36 := Stab.v 9 0 hd hk []
 clear hd
 replace x0r := cL hh.ext x0r
 replace y0r := cL hh.ext y0r
 replace d0 := cL hh.ext d0
 replace d1 := cL hh.ext d1
 replace d2 := cL hh.ext d2
 replace e0 := cL hh.ext e0
 replace e1 := cL hh.ext e1
 replace e2 := cL hh.ext e2
 replace hra1 := hra1.later hh.ext
 replace hra2 := hra2.later hh.ext
 go_simp
 go_at_call 35; refine (alike w1 p q av1 av2 hra1 hra2 hl1 hl2).mono ?_; rintro e w2 ⟨rfl, hb⟩
 exact Z.out _ rfl _ _ hb rfl)
 apply Stab.tq 11 _ hf hok
 · (
 intro fr1 w1 hh hd hk K Z
 have s37 := Stab.v 10 0 hd hk []
 clear hd
 go_simp
 exact Stab.k Z)
 refine Stab.tf hf hok fun fr1 w1 hh hg => ?_
 replace s2 := Stab.O hh s2
 replace s3 := Stab.O hh s3
 replace s5 := Stab.O hh s5
 have s38 := Stab.f 11 0 hg
 have hf1 := hh.fr hf
 have hx := hh.ext
 replace x0r := cL hx x0r
 replace y0r := cL hx y0r
 replace d0 := cL hx d0
 replace d1 := cL hx d1
 replace d2 := cL hx d2
 replace e0 := cL hx e0
 replace e1 := cL hx e1
 replace e2 := cL hx e2
 replace hra1 := hra1.later hx
 replace hra2 := hra2.later hx
 clear hg hh hf hok s24
 have hf := hf1; clear hf1
 refine nx (hK9 _ _ ?_)
 refine Fact.cond_s s38 (fun hq2 => ?_) (fun hq2 => ?_)
 · (
 have hne : a ≠ b := fun e => of_decide_eq_false (show decide (p = q) = false by simpa using hq2) (Option.some.inj (by rw [← HP.out, ← HB.out, e]))
 have HN := Lib.hid hne; clear hne hq2
 refine Fact.sq fun K10 hK10 => ?_
 refine rg ?_
 refine fp fun K Z => ?_
 go_simp
 apply Z.out; clear Z K
 refine Fact.z hf fun fr1 hf1 hT => ?_
 have hKp := hT 4
 simp (decide := true) only [Fact.G, hf.size, reduceIte] at hKp
 replace hf := hf1; clear hT hf1 s2 s3 s5 s38
 have s4 := hKp; clear hKp
 refine nx (hK10 _ _ ?_)
 refine wp_ret ?_
 refine Fact.block_ret ?_
 refine Fact.then_ret ?_
 refine Fact.then_ret ?_
 refine Fact.block_ret ?_
 refine Fact.then_ret ?_
 exact Fact.ret1 rfl hf s4 ⟨by rw [decide_eq_false HN.out], hbW.trans ((hb.trans (hx.mono hb.size)).mono hbW.size)⟩)
 · (
 have hpq : p = q := by simpa using hq2
 have hts : a.take (i + 1) = b.take (i + 1) := by rw [List.take_add_one, List.take_add_one, HT.out, HP.out, HB.out, hpq]
 have HTS := Lib.hid hts; clear hts hpq hq2
 refine wp_skip ?_
 refine Fact.block_normal ?_
 refine nx (hK8 _ _ ?_)
 refine rg ?_
 have b25 := hf.b 25
 have b26 := hf.b 26
 refine fp fun K Z => ?_
 go_simp
 apply Z.out; clear Z K
 refine fp fun K Z => ?_
 go_simp
 try simp (disch := omega) only [Fact.W]
 apply Z.out; clear Z K
 refine fp fun K Z => ?_
 go_simp
 apply Z.out; clear Z K
 refine Fact.z hf fun fr1 hf1 hT => ?_
 have hKp : _ ∧ _ ∧ _ := ⟨hT 2, hT 3, hT 5⟩
 simp (decide := true) only [Fact.G, hf.size, reduceIte, s2, s3] at hKp
 replace hf := hf1; clear hT hf1 s2 s3 s5 s38 b25 b26
 obtain ⟨s2, s3, s5⟩ := hKp
 refine Fact.then_normal ?_
 exact ⟨_, by have := HK.out; omega, i + 1, rfl, by omega, hf, s2, s3, by rw [s5]; rfl, HTS.out, hb.trans (hx.mono hb.size)⟩))
 · (
 have hie : i = a.length := by have h9 := of_decide_eq_false hq; omega
 have HIE := Lib.hid hie; clear hie hq
 refine wp_exit ?_
 refine Fact.then_exit ?_
 refine Fact.then_exit ?_
 refine Fact.block_exit ?_
 refine nx (hK4 _ _ ?_)
 refine Fact.sq fun K11 hK11 => ?_
 refine rg ?_
 refine fp fun K Z => ?_
 go_simp
 apply Z.out; clear Z K
 refine Fact.z hf fun fr1 hf1 hT => ?_
 have hKp := hT 4
 simp (decide := true) only [Fact.G, hf.size, reduceIte] at hKp
 replace hf := hf1; clear hT hf1 s2 s3 s5 s24
 have s4 := hKp; clear hKp
 refine nx (hK11 _ _ ?_)
 refine wp_ret ?_
 refine Fact.ret1 rfl hf s4 ⟨?_, hbW.trans (hb.mono hbW.size)⟩
 have h5 := HT.out
 rw [HIE.out] at h5
 rw [decide_eq_true (by rwa [List.take_length, HL.out, List.take_length] at h5)]))
theorem rsame (w : World) (a b : List State) (x y : Nat) (va vb : Value) (ha : RS w va a) (hb : RS w vb b) (hla : ∀ s ∈ a, s.arcs.length ≤ 4611686018427387904) (hlb : ∀ s ∈ b, s.arcs.length ≤ 4611686018427387904) (hlen : a.length ≤ 4611686018427387904) (hlenb : b.length ≤ 4611686018427387904) : Calls Tryd.prog 16 #[.agg #[va, .int .u64 x], .agg #[vb, .int .u64 y]] w fun e w1 => e = .returned (.bool (decide (x = y ∧ a = b))) ∧ Below w.heap.size w w1 := by
  have hd : ∀ z, z = decide (x = y ∧ a = b) → ∀ {e : Ending} {w1 : World}, e = .returned (.bool z) ∧ Below w.heap.size w w1 → e = .returned (.bool (decide (x = y ∧ a = b))) ∧ Below w.heap.size w w1 := fun z hz e w1 h => by rw [← hz]; exact h
  cases h1 : ((x : Int) != (y : Int)) with
  | true => exact (same_init w a b x y va vb ha hb hla hlb hlen hlenb h1).mono fun e w1 => hd _ (decide_eq_false (fun h => by obtain ⟨rfl, rfl⟩ := h; simp at h1)).symm
  | false =>
    cases h2 : ((a.length : Int) != (b.length : Int)) with
    | true => exact (same_len w a b x y va vb ha hb hla hlb hlen hlenb h1 h2).mono fun e w1 => hd _ (decide_eq_false (fun h => by obtain ⟨rfl, rfl⟩ := h; simp at h2)).symm
    | false =>
      refine (same_all w a b x y va vb ha hb hla hlb hlen hlenb h1 h2).mono fun e w1 => hd _ ?_
      have e1 : x = y := by have := bne_eq_false_iff_eq.1 h1; omega
      simp [e1]

end Dw
end Go.Proofs.YtdkbgbdgmihlmaaDoor
