/- Dawg: whether states are alike. -/
import Derived.Test.YtdkbgbdgmihlmaaDoorPRS
import Derived.Test.YtdkbgbdgmihlmaaDoorTools
namespace Go.Proofs.YtdkbgbdgmihlmaaDoor
open Go.RowKit
set_option linter.unusedSimpArgs false
set_option linter.unusedVariables false
set_option linter.unnecessarySimpa false
namespace Dw

theorem bne_t {a b : Bool} (h : (a != b) = true) : (a == b) = false := by cases a <;> cases b <;> first | rfl | cases h
theorem bne_f {a b : Bool} (h : (a != b) = false) : (a == b) = true := by cases a <;> cases b <;> first | rfl | cases h
theorem arc_neq {p q : Arc} {w1 : World} : (if (p.byte : Int) = (q.byte : Int) then if (p.out : Int) = (q.out : Int) then if p.to = q.to then (Result.ok (Next.value (Value.bool false)) w1 : Result Next) else .ok (.value (.bool true)) w1 else .ok (.value (.bool true)) w1 else .ok (.value (.bool true)) w1) = .ok (.value (.bool (decide (p ≠ q)))) w1 := by
  cases p with | mk a b c => cases q with | mk a' b' c' =>
  by_cases h1 : a = a'
  · by_cases h2 : b = b'
    · by_cases h3 : c = c'
      · subst h1; subst h2; subst h3; simp
      · simp [h1, h2, h3]
    · simp [h1, h2]; intro h; omega
  · simp [h1]; intro h; omega
theorem two_boxes {w W : World} {x y z x' y' z' : Value} {t t' : TypeId} (h : (w.alloc (.cells #[x, y, z] t)).alloc (.cells #[x', y', z'] t') = W) : Below w.heap.size w W ∧ W.cell? ⟨w.heap.size, 0, none⟩ = some x ∧ W.cell? ⟨w.heap.size, 1, none⟩ = some y ∧ W.cell? ⟨w.heap.size, 2, none⟩ = some z ∧
    W.cell? ⟨w.heap.size + 1, 0, none⟩ = some x' ∧ W.cell? ⟨w.heap.size + 1, 1, none⟩ = some y' ∧ W.cell? ⟨w.heap.size + 1, 2, none⟩ = some z' := by
  obtain ⟨W0, hW0⟩ : ∃ W0, w.alloc (.cells #[x, y, z] t) = W0 := ⟨_, rfl⟩
  rw [hW0] at h
  obtain ⟨h1, h2, h3, h4, _, h5⟩ := box3 hW0
  obtain ⟨k1, k2, k3, k4, _, k5⟩ := box3 h
  rw [h5] at k2 k3 k4
  exact ⟨h1.trans (k1.mono h1.size), cL k1 h2, cL k1 h3, cL k1 h4, k2, k3, k4⟩
set_option maxHeartbeats 4000000 in
set_option maxRecDepth 100000 in
theorem alike_fin (w : World) (a b : State) (va vb : Value) {Ba Bb : Nat → Prop} (ha : RA w Ba va a.arcs) (hb : RA w Bb vb b.arcs) (hlen : a.arcs.length ≤ 4611686018427387904) (hlenb : b.arcs.length ≤ 4611686018427387904) (h1 : (a.final != b.final) = true) : Calls Tryd.prog 35 #[sval va a, sval vb b] w fun e w1 => e = .returned (.bool false) ∧ Below w.heap.size w w1 := by
 refine calls_of_wp Tryd.func35 rfl ?_
 refine Fact.en 45 fun fr hf hT => ?_
 have s0 := hT 0 _ rfl
 have s1 := hT 1 _ rfl
 clear hT
 simp only [sval] at s0 s1
 have ha0 := ha; have hb0 := hb
 obtain ⟨Aa, ca, rfl, hca⟩ := ha.form
 obtain ⟨Ab, cb, rfl, hcb⟩ := hb.form
 clear ha hb
 have q1 : (a.final == b.final) = false := bne_t h1
 refine Fact.sq fun K1 hK1 => ?_
 refine rg ?_
 refine fp fun K Z => ?_
 go_simp
 apply Z.out; clear Z K
 refine fp fun K Z => ?_
 go_simp
 apply Z.out; clear Z K
 refine fp fun K Z => ?_
 go_simp
 apply Z.out; clear Z K
 refine Fact.z hf fun fr1 hf1 hT => ?_
 have hKp : _ ∧ _ := ⟨hT 2, hT 3⟩
 simp (decide := true) only [Fact.G, hf.size, reduceIte] at hKp
 replace hf := hf1; clear hT hf1 s0 s1
 obtain ⟨s2, s3⟩ := hKp
 obtain ⟨W1, hW1⟩ : ∃ W1, (w.alloc (.cells #[.slice Aa a.arcs.length ca, .bool a.final, .int .u64 a.out] 64)).alloc (.cells #[.slice Ab b.arcs.length cb, .bool b.final, .int .u64 b.out] 64) = W1 := ⟨_, rfl⟩
 try rw [hW1]
 obtain ⟨hbW, x0, x1, x2, y0, y1, y2⟩ := two_boxes hW1
 try simp only [World.size_alloc] at s3
 clear hW1
 have ha1 := ha0.later hbW; have hb1 := hb0.later hbW
 refine nx (hK1 _ _ ?_)
 refine Fact.sq fun K2 hK2 => ?_
 refine Fact.sq fun K3 hK3 => ?_
 refine rg ?_
 have b6 := hf.b 6
 have b7 := hf.b 7
 have b8 := hf.b 8
 have b9 := hf.b 9
 have b10 := hf.b 10
 have b11 := hf.b 11
 have b12 := hf.b 12
 have b13 := hf.b 13
 have b14 := hf.b 14
 have b15 := hf.b 15
 have b16 := hf.b 16
 have b17 := hf.b 17
 have b18 := hf.b 18
 have b19 := hf.b 19
 have b20 := hf.b 20
 have b21 := hf.b 21
 have b22 := hf.b 22
 have b23 := hf.b 23
 have b24 := hf.b 24
 have b25 := hf.b 25
 refine fp fun K Z => ?_
 go_simp
 apply Z.out; clear Z K
 refine fp fun K Z => ?_
 go_simp
 apply Z.out; clear Z K
 refine fp fun K Z => ?_
 go_simp
 apply Z.out; clear Z K
 refine fp fun K Z => ?_
 go_simp
 apply Z.out; clear Z K
 refine fp fun K Z => ?_
 go_simp
 apply Z.out; clear Z K
 refine fp fun K Z => ?_
 go_simp
 apply Z.out; clear Z K
 refine sk 5 11 false ?_ ?_
 · (
 simp (decide := true) only [Fact.G, reduceIte, hf.size, q1, Fact.N])
 refine sk 5 11 false ?_ ?_
 · (
 simp (decide := true) only [Fact.G, reduceIte, hf.size, q1, Fact.N])
 refine sk 5 11 false ?_ ?_
 · (
 simp (decide := true) only [Fact.G, reduceIte, hf.size, q1, Fact.N])
 refine sk 5 11 false ?_ ?_
 · (
 simp (decide := true) only [Fact.G, reduceIte, hf.size, q1, Fact.N])
 refine sk 5 11 false ?_ ?_
 · (
 simp (decide := true) only [Fact.G, reduceIte, hf.size, q1, Fact.N])
 refine fp fun K Z => ?_
 go_simp
 apply Z.out; clear Z K
 refine fp fun K Z => ?_
 go_simp
 apply Z.out; clear Z K
 refine sk 12 18 false ?_ ?_
 · (
 simp (decide := true) only [Fact.G, reduceIte, hf.size, q1, Fact.N])
 refine sk 12 18 false ?_ ?_
 · (
 simp (decide := true) only [Fact.G, reduceIte, hf.size, q1, Fact.N])
 refine sk 12 18 false ?_ ?_
 · (
 simp (decide := true) only [Fact.G, reduceIte, hf.size, q1, Fact.N])
 refine sk 12 18 false ?_ ?_
 · (
 simp (decide := true) only [Fact.G, reduceIte, hf.size, q1, Fact.N])
 refine sk 12 18 false ?_ ?_
 · (
 simp (decide := true) only [Fact.G, reduceIte, hf.size, q1, Fact.N])
 refine sk 12 18 false ?_ ?_
 · (
 simp (decide := true) only [Fact.G, reduceIte, hf.size, q1, Fact.N])
 refine sk 12 18 false ?_ ?_
 · (
 simp (decide := true) only [Fact.G, reduceIte, hf.size, q1, Fact.N])
 refine fp fun K Z => ?_
 go_simp
 apply Z.out; clear Z K
 refine Fact.z hf fun fr1 hf1 hT => ?_
 have hKp : _ ∧ _ ∧ _ := ⟨hT 2, hT 3, hT 26⟩
 simp (decide := true) only [Fact.G, hf.size, reduceIte, s2, s3] at hKp
 replace hf := hf1; clear hT hf1 s2 s3 b6 b7 b8 b9 b10 b11 b12 b13 b14 b15 b16 b17 b18 b19 b20 b21 b22 b23 b24 b25
 obtain ⟨s2, s3, s26⟩ := hKp
 refine nx (hK3 _ _ ?_)
 refine Fact.cond_t s26 ?_
 refine Fact.sq fun K4 hK4 => ?_
 refine rg ?_
 refine fp fun K Z => ?_
 go_simp
 apply Z.out; clear Z K
 refine Fact.z hf fun fr1 hf1 hT => ?_
 have hKp := hT 4
 simp (decide := true) only [Fact.G, hf.size, reduceIte] at hKp
 replace hf := hf1; clear hT hf1 s2 s3 s26
 have s4 := hKp; clear hKp
 refine nx (hK4 _ _ ?_)
 refine wp_ret ?_
 refine Fact.then_ret ?_
 exact Fact.ret1 rfl hf s4 ⟨rfl, hbW⟩
set_option maxHeartbeats 4000000 in
set_option maxRecDepth 100000 in
theorem alike_out (w : World) (a b : State) (va vb : Value) {Ba Bb : Nat → Prop} (ha : RA w Ba va a.arcs) (hb : RA w Bb vb b.arcs) (hlen : a.arcs.length ≤ 4611686018427387904) (hlenb : b.arcs.length ≤ 4611686018427387904) (h1 : (a.final != b.final) = false) (h2 : ((a.out : Int) != (b.out : Int)) = true) : Calls Tryd.prog 35 #[sval va a, sval vb b] w fun e w1 => e = .returned (.bool false) ∧ Below w.heap.size w w1 := by
 refine calls_of_wp Tryd.func35 rfl ?_
 refine Fact.en 45 fun fr hf hT => ?_
 have s0 := hT 0 _ rfl
 have s1 := hT 1 _ rfl
 clear hT
 simp only [sval] at s0 s1
 have ha0 := ha; have hb0 := hb
 obtain ⟨Aa, ca, rfl, hca⟩ := ha.form
 obtain ⟨Ab, cb, rfl, hcb⟩ := hb.form
 clear ha hb
 have q1 : (a.final == b.final) = true := bne_f h1
 have q2 : ((a.out : Int) != (b.out : Int)) = true := h2
 refine Fact.sq fun K1 hK1 => ?_
 refine rg ?_
 refine fp fun K Z => ?_
 go_simp
 apply Z.out; clear Z K
 refine fp fun K Z => ?_
 go_simp
 apply Z.out; clear Z K
 refine fp fun K Z => ?_
 go_simp
 apply Z.out; clear Z K
 refine Fact.z hf fun fr1 hf1 hT => ?_
 have hKp : _ ∧ _ := ⟨hT 2, hT 3⟩
 simp (decide := true) only [Fact.G, hf.size, reduceIte] at hKp
 replace hf := hf1; clear hT hf1 s0 s1
 obtain ⟨s2, s3⟩ := hKp
 obtain ⟨W1, hW1⟩ : ∃ W1, (w.alloc (.cells #[.slice Aa a.arcs.length ca, .bool a.final, .int .u64 a.out] 64)).alloc (.cells #[.slice Ab b.arcs.length cb, .bool b.final, .int .u64 b.out] 64) = W1 := ⟨_, rfl⟩
 try rw [hW1]
 obtain ⟨hbW, x0, x1, x2, y0, y1, y2⟩ := two_boxes hW1
 try simp only [World.size_alloc] at s3
 clear hW1
 have ha1 := ha0.later hbW; have hb1 := hb0.later hbW
 refine nx (hK1 _ _ ?_)
 refine Fact.sq fun K2 hK2 => ?_
 refine Fact.sq fun K3 hK3 => ?_
 refine rg ?_
 have b6 := hf.b 6
 have b7 := hf.b 7
 have b8 := hf.b 8
 have b9 := hf.b 9
 have b10 := hf.b 10
 have b11 := hf.b 11
 have b12 := hf.b 12
 have b13 := hf.b 13
 have b14 := hf.b 14
 have b15 := hf.b 15
 have b16 := hf.b 16
 have b17 := hf.b 17
 have b18 := hf.b 18
 have b19 := hf.b 19
 have b20 := hf.b 20
 have b21 := hf.b 21
 have b22 := hf.b 22
 have b23 := hf.b 23
 have b24 := hf.b 24
 have b25 := hf.b 25
 refine fp fun K Z => ?_
 go_simp
 apply Z.out; clear Z K
 refine fp fun K Z => ?_
 go_simp
 apply Z.out; clear Z K
 refine fp fun K Z => ?_
 go_simp
 apply Z.out; clear Z K
 refine fp fun K Z => ?_
 go_simp
 apply Z.out; clear Z K
 refine fp fun K Z => ?_
 go_simp
 apply Z.out; clear Z K
 refine fp fun K Z => ?_
 go_simp
 apply Z.out; clear Z K
 refine og 5 11 false ?_ fun K Z => ?_
 · (
 simp (decide := true) only [Fact.G, reduceIte, hf.size, q1, q2, Fact.N])
 go_simp
 apply Z.out; clear Z K
 refine og 5 11 false ?_ fun K Z => ?_
 · (
 simp (decide := true) only [Fact.G, reduceIte, hf.size, q1, q2, Fact.N])
 go_simp
 apply Z.out; clear Z K
 refine og 5 11 false ?_ fun K Z => ?_
 · (
 simp (decide := true) only [Fact.G, reduceIte, hf.size, q1, q2, Fact.N])
 go_simp
 apply Z.out; clear Z K
 refine og 5 11 false ?_ fun K Z => ?_
 · (
 simp (decide := true) only [Fact.G, reduceIte, hf.size, q1, q2, Fact.N])
 go_simp
 apply Z.out; clear Z K
 refine og 5 11 false ?_ fun K Z => ?_
 · (
 simp (decide := true) only [Fact.G, reduceIte, hf.size, q1, q2, Fact.N])
 go_simp
 apply Z.out; clear Z K
 refine fp fun K Z => ?_
 go_simp
 apply Z.out; clear Z K
 refine fp fun K Z => ?_
 go_simp
 apply Z.out; clear Z K
 refine sk 12 18 false ?_ ?_
 · (
 simp (decide := true) only [Fact.G, reduceIte, hf.size, q1, q2, Fact.N])
 refine sk 12 18 false ?_ ?_
 · (
 simp (decide := true) only [Fact.G, reduceIte, hf.size, q1, q2, Fact.N])
 refine sk 12 18 false ?_ ?_
 · (
 simp (decide := true) only [Fact.G, reduceIte, hf.size, q1, q2, Fact.N])
 refine sk 12 18 false ?_ ?_
 · (
 simp (decide := true) only [Fact.G, reduceIte, hf.size, q1, q2, Fact.N])
 refine sk 12 18 false ?_ ?_
 · (
 simp (decide := true) only [Fact.G, reduceIte, hf.size, q1, q2, Fact.N])
 refine sk 12 18 false ?_ ?_
 · (
 simp (decide := true) only [Fact.G, reduceIte, hf.size, q1, q2, Fact.N])
 refine sk 12 18 false ?_ ?_
 · (
 simp (decide := true) only [Fact.G, reduceIte, hf.size, q1, q2, Fact.N])
 refine fp fun K Z => ?_
 go_simp
 apply Z.out; clear Z K
 refine Fact.z hf fun fr1 hf1 hT => ?_
 have hKp : _ ∧ _ ∧ _ := ⟨hT 2, hT 3, hT 26⟩
 simp (decide := true) only [Fact.G, hf.size, reduceIte, s2, s3] at hKp
 replace hf := hf1; clear hT hf1 s2 s3 b6 b7 b8 b9 b10 b11 b12 b13 b14 b15 b16 b17 b18 b19 b20 b21 b22 b23 b24 b25
 obtain ⟨s2, s3, s26⟩ := hKp
 refine nx (hK3 _ _ ?_)
 refine Fact.cond_t s26 ?_
 refine Fact.sq fun K4 hK4 => ?_
 refine rg ?_
 refine fp fun K Z => ?_
 go_simp
 apply Z.out; clear Z K
 refine Fact.z hf fun fr1 hf1 hT => ?_
 have hKp := hT 4
 simp (decide := true) only [Fact.G, hf.size, reduceIte] at hKp
 replace hf := hf1; clear hT hf1 s2 s3 s26
 have s4 := hKp; clear hKp
 refine nx (hK4 _ _ ?_)
 refine wp_ret ?_
 refine Fact.then_ret ?_
 exact Fact.ret1 rfl hf s4 ⟨rfl, hbW⟩
set_option maxHeartbeats 4000000 in
set_option maxRecDepth 100000 in
theorem alike_len (w : World) (a b : State) (va vb : Value) {Ba Bb : Nat → Prop} (ha : RA w Ba va a.arcs) (hb : RA w Bb vb b.arcs) (hlen : a.arcs.length ≤ 4611686018427387904) (hlenb : b.arcs.length ≤ 4611686018427387904) (h1 : (a.final != b.final) = false) (h2 : ((a.out : Int) != (b.out : Int)) = false) (h3 : ((a.arcs.length : Int) != (b.arcs.length : Int)) = true) : Calls Tryd.prog 35 #[sval va a, sval vb b] w fun e w1 => e = .returned (.bool false) ∧ Below w.heap.size w w1 := by
 refine calls_of_wp Tryd.func35 rfl ?_
 refine Fact.en 45 fun fr hf hT => ?_
 have s0 := hT 0 _ rfl
 have s1 := hT 1 _ rfl
 clear hT
 simp only [sval] at s0 s1
 have ha0 := ha; have hb0 := hb
 obtain ⟨Aa, ca, rfl, hca⟩ := ha.form
 obtain ⟨Ab, cb, rfl, hcb⟩ := hb.form
 clear ha hb
 have q1 : (a.final == b.final) = true := bne_f h1
 have q2 : ((a.out : Int) != (b.out : Int)) = false := h2
 have q3 : ((a.arcs.length : Int) != (b.arcs.length : Int)) = true := h3
 refine Fact.sq fun K1 hK1 => ?_
 refine rg ?_
 refine fp fun K Z => ?_
 go_simp
 apply Z.out; clear Z K
 refine fp fun K Z => ?_
 go_simp
 apply Z.out; clear Z K
 refine fp fun K Z => ?_
 go_simp
 apply Z.out; clear Z K
 refine Fact.z hf fun fr1 hf1 hT => ?_
 have hKp : _ ∧ _ := ⟨hT 2, hT 3⟩
 simp (decide := true) only [Fact.G, hf.size, reduceIte] at hKp
 replace hf := hf1; clear hT hf1 s0 s1
 obtain ⟨s2, s3⟩ := hKp
 obtain ⟨W1, hW1⟩ : ∃ W1, (w.alloc (.cells #[.slice Aa a.arcs.length ca, .bool a.final, .int .u64 a.out] 64)).alloc (.cells #[.slice Ab b.arcs.length cb, .bool b.final, .int .u64 b.out] 64) = W1 := ⟨_, rfl⟩
 try rw [hW1]
 obtain ⟨hbW, x0, x1, x2, y0, y1, y2⟩ := two_boxes hW1
 try simp only [World.size_alloc] at s3
 clear hW1
 have ha1 := ha0.later hbW; have hb1 := hb0.later hbW
 refine nx (hK1 _ _ ?_)
 refine Fact.sq fun K2 hK2 => ?_
 refine Fact.sq fun K3 hK3 => ?_
 refine rg ?_
 have b6 := hf.b 6
 have b7 := hf.b 7
 have b8 := hf.b 8
 have b9 := hf.b 9
 have b10 := hf.b 10
 have b11 := hf.b 11
 have b12 := hf.b 12
 have b13 := hf.b 13
 have b14 := hf.b 14
 have b15 := hf.b 15
 have b16 := hf.b 16
 have b17 := hf.b 17
 have b18 := hf.b 18
 have b19 := hf.b 19
 have b20 := hf.b 20
 have b21 := hf.b 21
 have b22 := hf.b 22
 have b23 := hf.b 23
 have b24 := hf.b 24
 have b25 := hf.b 25
 refine fp fun K Z => ?_
 go_simp
 apply Z.out; clear Z K
 refine fp fun K Z => ?_
 go_simp
 apply Z.out; clear Z K
 refine fp fun K Z => ?_
 go_simp
 apply Z.out; clear Z K
 refine fp fun K Z => ?_
 go_simp
 apply Z.out; clear Z K
 refine fp fun K Z => ?_
 go_simp
 apply Z.out; clear Z K
 refine fp fun K Z => ?_
 go_simp
 apply Z.out; clear Z K
 refine og 5 11 false ?_ fun K Z => ?_
 · (
 simp (decide := true) only [Fact.G, reduceIte, hf.size, q1, q2, q3, Fact.N])
 go_simp
 apply Z.out; clear Z K
 refine og 5 11 false ?_ fun K Z => ?_
 · (
 simp (decide := true) only [Fact.G, reduceIte, hf.size, q1, q2, q3, Fact.N])
 go_simp
 apply Z.out; clear Z K
 refine og 5 11 false ?_ fun K Z => ?_
 · (
 simp (decide := true) only [Fact.G, reduceIte, hf.size, q1, q2, q3, Fact.N])
 go_simp
 apply Z.out; clear Z K
 refine og 5 11 false ?_ fun K Z => ?_
 · (
 simp (decide := true) only [Fact.G, reduceIte, hf.size, q1, q2, q3, Fact.N])
 go_simp
 apply Z.out; clear Z K
 refine og 5 11 false ?_ fun K Z => ?_
 · (
 simp (decide := true) only [Fact.G, reduceIte, hf.size, q1, q2, q3, Fact.N])
 go_simp
 apply Z.out; clear Z K
 refine fp fun K Z => ?_
 go_simp
 apply Z.out; clear Z K
 refine fp fun K Z => ?_
 go_simp
 apply Z.out; clear Z K
 refine og 12 18 false ?_ fun K Z => ?_
 · (
 simp (decide := true) only [Fact.G, reduceIte, hf.size, q1, q2, q3, Fact.N])
 go_simp
 apply Z.out; clear Z K
 refine og 12 18 false ?_ fun K Z => ?_
 · (
 simp (decide := true) only [Fact.G, reduceIte, hf.size, q1, q2, q3, Fact.N])
 go_simp
 apply Z.out; clear Z K
 refine og 12 18 false ?_ fun K Z => ?_
 · (
 simp (decide := true) only [Fact.G, reduceIte, hf.size, q1, q2, q3, Fact.N])
 go_simp
 apply Z.out; clear Z K
 refine og 12 18 false ?_ fun K Z => ?_
 · (
 simp (decide := true) only [Fact.G, reduceIte, hf.size, q1, q2, q3, Fact.N])
 go_simp
 apply Z.out; clear Z K
 refine og 12 18 false ?_ fun K Z => ?_
 · (
 simp (decide := true) only [Fact.G, reduceIte, hf.size, q1, q2, q3, Fact.N])
 go_simp
 apply Z.out; clear Z K
 refine og 12 18 false ?_ fun K Z => ?_
 · (
 simp (decide := true) only [Fact.G, reduceIte, hf.size, q1, q2, q3, Fact.N])
 go_simp
 apply Z.out; clear Z K
 refine og 12 18 false ?_ fun K Z => ?_
 · (
 simp (decide := true) only [Fact.G, reduceIte, hf.size, q1, q2, q3, Fact.N])
 go_simp
 apply Z.out; clear Z K
 refine fp fun K Z => ?_
 go_simp
 apply Z.out; clear Z K
 refine Fact.z hf fun fr1 hf1 hT => ?_
 have hKp : _ ∧ _ ∧ _ := ⟨hT 2, hT 3, hT 26⟩
 simp (decide := true) only [Fact.G, hf.size, reduceIte, s2, s3] at hKp
 replace hf := hf1; clear hT hf1 s2 s3 b6 b7 b8 b9 b10 b11 b12 b13 b14 b15 b16 b17 b18 b19 b20 b21 b22 b23 b24 b25
 obtain ⟨s2, s3, s26⟩ := hKp
 refine nx (hK3 _ _ ?_)
 refine Fact.cond_t s26 ?_
 refine Fact.sq fun K4 hK4 => ?_
 refine rg ?_
 refine fp fun K Z => ?_
 go_simp
 apply Z.out; clear Z K
 refine Fact.z hf fun fr1 hf1 hT => ?_
 have hKp := hT 4
 simp (decide := true) only [Fact.G, hf.size, reduceIte] at hKp
 replace hf := hf1; clear hT hf1 s2 s3 s26
 have s4 := hKp; clear hKp
 refine nx (hK4 _ _ ?_)
 refine wp_ret ?_
 refine Fact.then_ret ?_
 exact Fact.ret1 rfl hf s4 ⟨rfl, hbW⟩
set_option maxHeartbeats 4000000 in
set_option maxRecDepth 100000 in
theorem alike_all (w : World) (a b : State) (va vb : Value) {Ba Bb : Nat → Prop} (ha : RA w Ba va a.arcs) (hb : RA w Bb vb b.arcs) (hlen : a.arcs.length ≤ 4611686018427387904) (hlenb : b.arcs.length ≤ 4611686018427387904) (h1 : (a.final != b.final) = false) (h2 : ((a.out : Int) != (b.out : Int)) = false) (h3 : ((a.arcs.length : Int) != (b.arcs.length : Int)) = false) : Calls Tryd.prog 35 #[sval va a, sval vb b] w fun e w1 => e = .returned (.bool (decide (a.arcs = b.arcs))) ∧ Below w.heap.size w w1 := by
 refine calls_of_wp Tryd.func35 rfl ?_
 refine Fact.en 45 fun fr hf hT => ?_
 have s0 := hT 0 _ rfl
 have s1 := hT 1 _ rfl
 clear hT
 simp only [sval] at s0 s1
 have ha0 := ha; have hb0 := hb
 obtain ⟨Aa, ca, rfl, hca⟩ := ha.form
 obtain ⟨Ab, cb, rfl, hcb⟩ := hb.form
 clear ha hb
 have q1 : (a.final == b.final) = true := bne_f h1
 have q2 : ((a.out : Int) != (b.out : Int)) = false := h2
 have q3 : ((a.arcs.length : Int) != (b.arcs.length : Int)) = false := h3
 refine Fact.sq fun K1 hK1 => ?_
 refine rg ?_
 refine fp fun K Z => ?_
 go_simp
 apply Z.out; clear Z K
 refine fp fun K Z => ?_
 go_simp
 apply Z.out; clear Z K
 refine fp fun K Z => ?_
 go_simp
 apply Z.out; clear Z K
 refine Fact.z hf fun fr1 hf1 hT => ?_
 have hKp : _ ∧ _ := ⟨hT 2, hT 3⟩
 simp (decide := true) only [Fact.G, hf.size, reduceIte] at hKp
 replace hf := hf1; clear hT hf1 s0 s1
 obtain ⟨s2, s3⟩ := hKp
 obtain ⟨W1, hW1⟩ : ∃ W1, (w.alloc (.cells #[.slice Aa a.arcs.length ca, .bool a.final, .int .u64 a.out] 64)).alloc (.cells #[.slice Ab b.arcs.length cb, .bool b.final, .int .u64 b.out] 64) = W1 := ⟨_, rfl⟩
 try rw [hW1]
 obtain ⟨hbW, x0, x1, x2, y0, y1, y2⟩ := two_boxes hW1
 try simp only [World.size_alloc] at s3
 clear hW1
 have ha1 := ha0.later hbW; have hb1 := hb0.later hbW
 refine nx (hK1 _ _ ?_)
 refine Fact.sq fun K2 hK2 => ?_
 refine Fact.sq fun K3 hK3 => ?_
 refine rg ?_
 have b6 := hf.b 6
 have b7 := hf.b 7
 have b8 := hf.b 8
 have b9 := hf.b 9
 have b10 := hf.b 10
 have b11 := hf.b 11
 have b12 := hf.b 12
 have b13 := hf.b 13
 have b14 := hf.b 14
 have b15 := hf.b 15
 have b16 := hf.b 16
 have b17 := hf.b 17
 have b18 := hf.b 18
 have b19 := hf.b 19
 have b20 := hf.b 20
 have b21 := hf.b 21
 have b22 := hf.b 22
 have b23 := hf.b 23
 have b24 := hf.b 24
 have b25 := hf.b 25
 refine fp fun K Z => ?_
 go_simp
 apply Z.out; clear Z K
 refine fp fun K Z => ?_
 go_simp
 apply Z.out; clear Z K
 refine fp fun K Z => ?_
 go_simp
 apply Z.out; clear Z K
 refine fp fun K Z => ?_
 go_simp
 apply Z.out; clear Z K
 refine fp fun K Z => ?_
 go_simp
 apply Z.out; clear Z K
 refine fp fun K Z => ?_
 go_simp
 apply Z.out; clear Z K
 refine og 5 11 false ?_ fun K Z => ?_
 · (
 simp (decide := true) only [Fact.G, reduceIte, hf.size, q1, q2, q3, Fact.N])
 go_simp
 apply Z.out; clear Z K
 refine og 5 11 false ?_ fun K Z => ?_
 · (
 simp (decide := true) only [Fact.G, reduceIte, hf.size, q1, q2, q3, Fact.N])
 go_simp
 apply Z.out; clear Z K
 refine og 5 11 false ?_ fun K Z => ?_
 · (
 simp (decide := true) only [Fact.G, reduceIte, hf.size, q1, q2, q3, Fact.N])
 go_simp
 apply Z.out; clear Z K
 refine og 5 11 false ?_ fun K Z => ?_
 · (
 simp (decide := true) only [Fact.G, reduceIte, hf.size, q1, q2, q3, Fact.N])
 go_simp
 apply Z.out; clear Z K
 refine og 5 11 false ?_ fun K Z => ?_
 · (
 simp (decide := true) only [Fact.G, reduceIte, hf.size, q1, q2, q3, Fact.N])
 go_simp
 apply Z.out; clear Z K
 refine fp fun K Z => ?_
 go_simp
 apply Z.out; clear Z K
 refine fp fun K Z => ?_
 go_simp
 apply Z.out; clear Z K
 refine og 12 18 false ?_ fun K Z => ?_
 · (
 simp (decide := true) only [Fact.G, reduceIte, hf.size, q1, q2, q3, Fact.N])
 go_simp
 apply Z.out; clear Z K
 refine og 12 18 false ?_ fun K Z => ?_
 · (
 simp (decide := true) only [Fact.G, reduceIte, hf.size, q1, q2, q3, Fact.N])
 go_simp
 apply Z.out; clear Z K
 refine og 12 18 false ?_ fun K Z => ?_
 · (
 simp (decide := true) only [Fact.G, reduceIte, hf.size, q1, q2, q3, Fact.N])
 go_simp
 apply Z.out; clear Z K
 refine og 12 18 false ?_ fun K Z => ?_
 · (
 simp (decide := true) only [Fact.G, reduceIte, hf.size, q1, q2, q3, Fact.N])
 go_simp
 apply Z.out; clear Z K
 refine og 12 18 false ?_ fun K Z => ?_
 · (
 simp (decide := true) only [Fact.G, reduceIte, hf.size, q1, q2, q3, Fact.N])
 go_simp
 apply Z.out; clear Z K
 refine og 12 18 false ?_ fun K Z => ?_
 · (
 simp (decide := true) only [Fact.G, reduceIte, hf.size, q1, q2, q3, Fact.N])
 go_simp
 apply Z.out; clear Z K
 refine og 12 18 false ?_ fun K Z => ?_
 · (
 simp (decide := true) only [Fact.G, reduceIte, hf.size, q1, q2, q3, Fact.N])
 go_simp
 apply Z.out; clear Z K
 refine fp fun K Z => ?_
 go_simp
 apply Z.out; clear Z K
 refine Fact.z hf fun fr1 hf1 hT => ?_
 have hKp : _ ∧ _ ∧ _ := ⟨hT 2, hT 3, hT 26⟩
 simp (decide := true) only [Fact.G, hf.size, reduceIte, s2, s3] at hKp
 replace hf := hf1; clear hT hf1 s2 s3 b6 b7 b8 b9 b10 b11 b12 b13 b14 b15 b16 b17 b18 b19 b20 b21 b22 b23 b24 b25
 obtain ⟨s2, s3, s26⟩ := hKp
 refine nx (hK3 _ _ ?_)
 refine Fact.cond_f s26 ?_
 have hl : a.arcs.length = b.arcs.length := by have := bne_eq_false_iff_eq.1 h3; omega
 have HL := Lib.hid hl; clear hl
 clear h1 h2 h3 q1 q2 q3 x1 x2 y1 y2 ha0 hb0
 refine wp_skip ?_
 refine nx (hK2 _ _ ?_)
 refine Fact.sq fun K4 hK4 => ?_
 refine Fact.sq fun K5 hK5 => ?_
 refine rg ?_
 refine fp fun K Z => ?_
 go_simp
 apply Z.out; clear Z K
 refine Fact.z hf fun fr1 hf1 hT => ?_
 have hKp : _ ∧ _ ∧ _ := ⟨hT 2, hT 3, hT 5⟩
 simp (decide := true) only [Fact.G, hf.size, reduceIte, s2, s3] at hKp
 replace hf := hf1; clear hT hf1 s2 s3 s26
 obtain ⟨s2, s3, s5⟩ := hKp
 refine nx (hK5 _ _ ?_)
 refine wp_block ?_
 refine wp_loop_ghost (fun gk fr wr => ∃ (i : Nat), gk = a.arcs.length - i ∧ i ≤ a.arcs.length ∧ Fact.Fr 45 fr ∧ fr.tmps[2]? = some (.pointer (some ⟨w.heap.size, 0, none⟩)) ∧ fr.tmps[3]? = some (.pointer (some ⟨w.heap.size + 1, 0, none⟩)) ∧ fr.tmps[5]? = some (.int .i64 i) ∧ a.arcs.take i = b.arcs.take i ∧ Below W1.heap.size W1 wr) (a.arcs.length) ?_ ?_
 · (
 exact ⟨0, rfl, Nat.zero_le _, hf, s2, s3, s5, rfl, Below.refl _ _⟩)
 · (
 clear hf s2 s3 s5
 rintro gk fr wr ⟨i, hk, hi, hf, s2, s3, s5, hta, hb⟩
 have HK := Lib.hid hk; have HT := Lib.hid hta; clear hk hta
 have x0r := cL hb x0; have y0r := cL hb y0
 refine Fact.sq fun K6 hK6 => ?_
 refine Fact.sq fun K7 hK7 => ?_
 refine rg ?_
 have b27 := hf.b 27
 have b28 := hf.b 28
 have b29 := hf.b 29
 have b30 := hf.b 30
 refine fp fun K Z => ?_
 go_simp
 apply Z.out; clear Z K
 refine fp fun K Z => ?_
 go_simp
 apply Z.out; clear Z K
 refine fp fun K Z => ?_
 go_simp
 apply Z.out; clear Z K
 refine fp fun K Z => ?_
 go_simp
 apply Z.out; clear Z K
 refine fp fun K Z => ?_
 go_simp
 apply Z.out; clear Z K
 refine Fact.z hf fun fr1 hf1 hT => ?_
 have hKp : _ ∧ _ ∧ _ ∧ _ := ⟨hT 2, hT 3, hT 5, hT 31⟩
 simp (decide := true) only [Fact.G, hf.size, reduceIte, s2, s3, s5] at hKp
 replace hf := hf1; clear hT hf1 s2 s3 s5 b27 b28 b29 b30
 obtain ⟨s2, s3, s5, s31⟩ := hKp
 refine nx (hK7 _ _ ?_)
 refine Fact.cond_s s31 (fun hq => ?_) (fun hq => ?_)
 · (
 have hlt : i < a.arcs.length := by have h9 := of_decide_eq_true hq; omega
 have hltb : i < b.arcs.length := by have := HL.out; omega
 have HQ := Lib.hid hq; clear hq
 obtain ⟨p, hp⟩ : ∃ p, a.arcs[i]? = some p := ⟨_, List.getElem?_eq_getElem hlt⟩
 obtain ⟨q, hqb⟩ : ∃ q, b.arcs[i]? = some q := ⟨_, List.getElem?_eq_getElem (by have := HL.out; omega)⟩
 obtain ⟨g1, o1, rfl, _, d0, d1, d2⟩ := (ha1.later hb).at' hp
 obtain ⟨g2, o2, rfl, _, e0, e1, e2⟩ := (hb1.later hb).at' hqb
 have HP := Lib.hid hp; have HB := Lib.hid hqb; clear hp hqb
 refine wp_skip ?_
 refine nx (hK6 _ _ ?_)
 refine Fact.sq fun K8 hK8 => ?_
 refine wp_block ?_
 refine Fact.sq fun K9 hK9 => ?_
 refine Stab.tb 45 fun hok => ?_
 apply Stab.tq 0 _ hf hok
 · (
 intro fr1 w1 hh hd hk K Z
 have s2 := Stab.O hh s2
 clear hd
 go_simp
 exact Stab.k Z)
 apply Stab.tq 1 _ hf hok
 · (
 intro fr1 w1 hh hd hk K Z
 have s34 := Stab.v 0 0 hd hk []
 clear hd
 replace x0r := cL hh.ext x0r
 replace y0r := cL hh.ext y0r
 replace d0 := cL hh.ext d0
 replace d1 := cL hh.ext d1
 replace d2 := cL hh.ext d2
 replace e0 := cL hh.ext e0
 replace e1 := cL hh.ext e1
 replace e2 := cL hh.ext e2
 go_simp
 exact Stab.k Z)
 refine Stab.mO 2 s5 hf hok ?_
 apply Stab.tq 3 _ hf hok
 · (
 intro fr1 w1 hh hd hk K Z
 have s35 := Stab.v 1 1 hd hk []
 have s36 := Stab.v 2 0 hd hk []
 clear hd
 go_simp
 try rw [if_pos (by omega)]
 exact Stab.k Z)
 apply Stab.tq 4 _ hf hok
 · (
 intro fr1 w1 hh hd hk K Z
 have s37 := Stab.v 3 0 hd hk []
 clear hd
 replace x0r := cL hh.ext x0r
 replace y0r := cL hh.ext y0r
 replace d0 := cL hh.ext d0
 replace d1 := cL hh.ext d1
 replace d2 := cL hh.ext d2
 replace e0 := cL hh.ext e0
 replace e1 := cL hh.ext e1
 replace e2 := cL hh.ext e2
 go_simp
 exact Stab.k Z)
 apply Stab.tq 5 _ hf hok
 · (
 intro fr1 w1 hh hd hk K Z
 have s3 := Stab.O hh s3
 clear hd
 go_simp
 exact Stab.k Z)
 apply Stab.tq 6 _ hf hok
 · (
 intro fr1 w1 hh hd hk K Z
 have s39 := Stab.v 5 0 hd hk []
 clear hd
 replace x0r := cL hh.ext x0r
 replace y0r := cL hh.ext y0r
 replace d0 := cL hh.ext d0
 replace d1 := cL hh.ext d1
 replace d2 := cL hh.ext d2
 replace e0 := cL hh.ext e0
 replace e1 := cL hh.ext e1
 replace e2 := cL hh.ext e2
 go_simp
 exact Stab.k Z)
 refine Stab.mO 7 s5 hf hok ?_
 apply Stab.tq 8 _ hf hok
 · (
 intro fr1 w1 hh hd hk K Z
 have s40 := Stab.v 6 1 hd hk []
 have s41 := Stab.v 7 0 hd hk []
 clear hd
 go_simp
 try rw [if_pos (by omega)]
 exact Stab.k Z)
 apply Stab.tq 9 _ hf hok
 · (
 intro fr1 w1 hh hd hk K Z
 have s42 := Stab.v 8 0 hd hk []
 clear hd
 replace x0r := cL hh.ext x0r
 replace y0r := cL hh.ext y0r
 replace d0 := cL hh.ext d0
 replace d1 := cL hh.ext d1
 replace d2 := cL hh.ext d2
 replace e0 := cL hh.ext e0
 replace e1 := cL hh.ext e1
 replace e2 := cL hh.ext e2
 go_simp
 exact Stab.k Z)
 apply Stab.tq 10 _ hf hok
 · (
 intro fr1 w1 hh hd hk K Z
 have s38 := Stab.v 4 5 hd hk []
 have s43 := Stab.v 9 0 hd hk []
 clear hd
 go_simp
 rw [arc_neq]
 rw [Oper.upon_value]
 exact Stab.k Z)
 refine Stab.tf hf hok fun fr1 w1 hh hg => ?_
 replace s2 := Stab.O hh s2
 replace s3 := Stab.O hh s3
 replace s5 := Stab.O hh s5
 have s44 := Stab.f 10 0 hg
 have hf1 := hh.fr hf
 have hx := hh.ext
 replace x0r := cL hx x0r
 replace y0r := cL hx y0r
 replace d0 := cL hx d0
 replace d1 := cL hx d1
 replace d2 := cL hx d2
 replace e0 := cL hx e0
 replace e1 := cL hx e1
 replace e2 := cL hx e2
 clear hg hh hf hok s31
 have hf := hf1; clear hf1
 refine nx (hK9 _ _ ?_)
 refine Fact.cond_s s44 (fun hq2 => ?_) (fun hq2 => ?_)
 · (
 have HQ2 := Lib.hid hq2; clear hq2
 have hne : a.arcs ≠ b.arcs := fun e => of_decide_eq_true HQ2.out (Option.some.inj (by rw [← HP.out, ← HB.out, e]))
 have HN := Lib.hid hne; clear hne
 refine Fact.sq fun K10 hK10 => ?_
 refine rg ?_
 refine fp fun K Z => ?_
 go_simp
 apply Z.out; clear Z K
 refine Fact.z hf fun fr1 hf1 hT => ?_
 have hKp := hT 4
 simp (decide := true) only [Fact.G, hf.size, reduceIte] at hKp
 replace hf := hf1; clear hT hf1 s2 s3 s5 s44
 have s4 := hKp; clear hKp
 refine nx (hK10 _ _ ?_)
 refine wp_ret ?_
 refine Fact.block_ret ?_
 refine Fact.then_ret ?_
 refine Fact.then_ret ?_
 refine Fact.block_ret ?_
 refine Fact.then_ret ?_
 exact Fact.ret1 rfl hf s4 ⟨by rw [decide_eq_false HN.out], hbW.trans ((hb.trans (hx.mono hb.size)).mono hbW.size)⟩)
 · (
 have HQ2 := Lib.hid hq2; clear hq2
 have hpq : p = q := by have := of_decide_eq_false HQ2.out; exact Classical.not_not.1 this
 have hts : a.arcs.take (i + 1) = b.arcs.take (i + 1) := by rw [List.take_add_one, List.take_add_one, HT.out, HP.out, HB.out, hpq]
 have HTS := Lib.hid hts; clear hts hpq
 refine wp_skip ?_
 refine Fact.block_normal ?_
 refine nx (hK8 _ _ ?_)
 refine rg ?_
 have b32 := hf.b 32
 have b33 := hf.b 33
 refine fp fun K Z => ?_
 go_simp
 apply Z.out; clear Z K
 refine fp fun K Z => ?_
 go_simp
 try simp (disch := omega) only [Fact.W]
 apply Z.out; clear Z K
 refine fp fun K Z => ?_
 go_simp
 apply Z.out; clear Z K
 refine Fact.z hf fun fr1 hf1 hT => ?_
 have hKp : _ ∧ _ ∧ _ := ⟨hT 2, hT 3, hT 5⟩
 simp (decide := true) only [Fact.G, hf.size, reduceIte, s2, s3] at hKp
 replace hf := hf1; clear hT hf1 s2 s3 s5 s44 b32 b33
 obtain ⟨s2, s3, s5⟩ := hKp
 refine Fact.then_normal ?_
 exact ⟨_, by have := HK.out; omega, i + 1, rfl, by omega, hf, s2, s3, by rw [s5]; rfl, HTS.out, hb.trans (hx.mono hb.size)⟩))
 · (
 have hie : i = a.arcs.length := by have h9 := of_decide_eq_false hq; omega
 have HIE := Lib.hid hie; clear hie hq
 refine wp_exit ?_
 refine Fact.then_exit ?_
 refine Fact.then_exit ?_
 refine Fact.block_exit ?_
 refine nx (hK4 _ _ ?_)
 refine Fact.sq fun K11 hK11 => ?_
 refine rg ?_
 refine fp fun K Z => ?_
 go_simp
 apply Z.out; clear Z K
 refine Fact.z hf fun fr1 hf1 hT => ?_
 have hKp := hT 4
 simp (decide := true) only [Fact.G, hf.size, reduceIte] at hKp
 replace hf := hf1; clear hT hf1 s2 s3 s5 s31
 have s4 := hKp; clear hKp
 refine nx (hK11 _ _ ?_)
 refine wp_ret ?_
 refine Fact.ret1 rfl hf s4 ⟨?_, hbW.trans (hb.mono hbW.size)⟩
 have h5 := HT.out
 rw [HIE.out] at h5
 rw [decide_eq_true (by rwa [List.take_length, HL.out, List.take_length] at h5)]))
theorem alike (w : World) (a b : State) (va vb : Value) {Ba Bb : Nat → Prop} (ha : RA w Ba va a.arcs) (hb : RA w Bb vb b.arcs) (hlen : a.arcs.length ≤ 4611686018427387904) (hlenb : b.arcs.length ≤ 4611686018427387904) : Calls Tryd.prog 35 #[sval va a, sval vb b] w fun e w1 => e = .returned (.bool (decide (a = b))) ∧ Below w.heap.size w w1 := by
  have hd : ∀ x, x = decide (a = b) → ∀ {e : Ending} {w1 : World}, e = .returned (.bool x) ∧ Below w.heap.size w w1 → e = .returned (.bool (decide (a = b))) ∧ Below w.heap.size w w1 := fun x hx e w1 h => by rw [← hx]; exact h
  cases h1 : (a.final != b.final) with
  | true => exact (alike_fin w a b va vb ha hb hlen hlenb h1).mono fun e w1 => hd _ (decide_eq_false (fun h => by subst h; simp at h1)).symm
  | false =>
    cases h2 : ((a.out : Int) != (b.out : Int)) with
    | true => exact (alike_out w a b va vb ha hb hlen hlenb h1 h2).mono fun e w1 => hd _ (decide_eq_false (fun h => by subst h; simp at h2)).symm
    | false =>
      cases h3 : ((a.arcs.length : Int) != (b.arcs.length : Int)) with
      | true => exact (alike_len w a b va vb ha hb hlen hlenb h1 h2 h3).mono fun e w1 => hd _ (decide_eq_false (fun h => by subst h; simp at h3)).symm
      | false =>
        refine (alike_all w a b va vb ha hb hlen hlenb h1 h2 h3).mono fun e w1 => hd _ ?_
        have e1 := bne_eq_false_iff_eq.1 h1
        have e2 : a.out = b.out := by have := bne_eq_false_iff_eq.1 h2; omega
        cases a; cases b
        simp at e1 e2 ⊢
        subst e1; subst e2
        simp

end Dw
end Go.Proofs.YtdkbgbdgmihlmaaDoor
