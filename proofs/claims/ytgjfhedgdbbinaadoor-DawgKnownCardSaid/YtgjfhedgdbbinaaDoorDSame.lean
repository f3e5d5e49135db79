/- Dawg: whether transducers are alike. -/
import Derived.Test.YtgjfhedgdbbinaaDoorDAlike
namespace Go.Proofs.YtgjfhedgdbbinaaDoor
open Go.RowKit
set_option linter.unusedSimpArgs false
set_option linter.unusedVariables false
set_option linter.unnecessarySimpa false
namespace Dw

theorem two_boxes2 {w W : World} {x y x' y' : Value} {t t' : TypeId} (h : (w.alloc (.cells #[x, y] t)).alloc (.cells #[x', y'] t') = W) : Below w.heap.size w W ∧ W.cell? ⟨w.heap.size, 0, none⟩ = some x ∧ W.cell? ⟨w.heap.size, 1, none⟩ = some y ∧
    W.cell? ⟨w.heap.size + 1, 0, none⟩ = some x' ∧ W.cell? ⟨w.heap.size + 1, 1, none⟩ = some y' := by
  obtain ⟨W0, hW0⟩ : ∃ W0, w.alloc (.cells #[x, y] t) = W0 := ⟨_, rfl⟩
  rw [hW0] at h
  obtain ⟨h1, h2, h3, _, h5⟩ := box2 hW0
  obtain ⟨k1, k2, k3, _, k5⟩ := box2 h
  rw [h5] at k2 k3
  exact ⟨h1.trans (k1.mono h1.size), cell_later k1 h2, cell_later k1 h3, k2, k3⟩
set_option maxHeartbeats 4000000 in
set_option maxRecDepth 100000 in
theorem same_init (w : World) (a b : List State) (x y : Nat) (va vb : Value) (ha : RS w va a) (hb : RS w vb b) (hla : ∀ s ∈ a, s.arcs.length ≤ 4611686018427387904) (hlb : ∀ s ∈ b, s.arcs.length ≤ 4611686018427387904) (hlen : a.length ≤ 4611686018427387904) (hlenb : b.length ≤ 4611686018427387904) (h1 : ((x : Int) != (y : Int)) = true) : Calls Tryd.prog 19 #[.agg #[va, .int .u64 x], .agg #[vb, .int .u64 y]] w fun e w1 => e = .returned (.bool false) ∧ Below w.heap.size w w1 := by
 refine calls_of_wp Tryd.func19 rfl ?_
 refine Fact.enter (n := 39) (by kernel_rfl) (fun fr hf hT => ?_)
 have s0 := hT 0 _ rfl
 have s1 := hT 1 _ rfl
 clear hT
 have ha0 := ha; have hb0 := hb
 obtain ⟨Aa, ca, rfl, hca⟩ := ha.form
 obtain ⟨Ab, cb, rfl, hcb⟩ := hb.form
 clear ha hb
 have HLA := Lib.hid hla; have HLB := Lib.hid hlb; clear hla hlb
 have q1 : ((x : Int) != (y : Int)) = true := h1
 refine wp_seq_k (fun K1 hK1 => ?_)
 refine Fact.region ?_
 refine Fact.p rfl fun K hK => ?_
 go_simp
 refine hK.out _ _ ?_; clear hK K
 refine Fact.p rfl fun K hK => ?_
 go_simp
 refine hK.out _ _ ?_; clear hK K
 refine Fact.p rfl fun K hK => ?_
 go_simp
 refine hK.out _ _ ?_; clear hK K
 refine Fact.nil ?_
 refine Fact.q hf (by simp only [Fact.G]) rfl fun fr1 hf1 hT => ?_
 have hKp : _ ∧ _ ∧ _ := ⟨hT 2, hT 3, hT 4⟩
 simp only [Fact.G, Nat.reduceEqDiff, Nat.reduceLT, hf.size, reduceIte] at hKp
 clear hT hf s0 s1
 obtain ⟨s2, s3, s4⟩ := hKp
 have hf := hf1; clear hf1
 obtain ⟨W1, hW1⟩ : ∃ W1, (w.alloc (.cells #[.slice Aa a.length ca, .int .u64 x] 33)).alloc (.cells #[.slice Ab b.length cb, .int .u64 y] 33) = W1 := ⟨_, rfl⟩
 try rw [hW1]
 obtain ⟨hbW, x0, x1, y0, y1⟩ := two_boxes2 hW1
 try simp only [World.size_alloc] at s3
 clear hW1
 have ha1 := ha0.later hbW; have hb1 := hb0.later hbW
 refine Fact.nx (hK1 _ _ ?_)
 refine wp_seq_k (fun K2 hK2 => ?_)
 refine wp_seq_k (fun K3 hK3 => ?_)
 refine Fact.region ?_
 have b6 := hf.l 6 rfl
 have b7 := hf.l 7 rfl
 have b8 := hf.l 8 rfl
 have b9 := hf.l 9 rfl
 have b10 := hf.l 10 rfl
 have b11 := hf.l 11 rfl
 have b12 := hf.l 12 rfl
 have b13 := hf.l 13 rfl
 have b14 := hf.l 14 rfl
 have b15 := hf.l 15 rfl
 have b16 := hf.l 16 rfl
 have b17 := hf.l 17 rfl
 have b18 := hf.l 18 rfl
 refine Fact.p rfl fun K hK => ?_
 go_simp
 refine hK.out _ _ ?_; clear hK K
 refine Fact.p rfl fun K hK => ?_
 go_simp
 refine hK.out _ _ ?_; clear hK K
 refine Fact.p rfl fun K hK => ?_
 go_simp
 refine hK.out _ _ ?_; clear hK K
 refine Fact.p rfl fun K hK => ?_
 go_simp
 refine hK.out _ _ ?_; clear hK K
 refine Fact.p rfl fun K hK => ?_
 go_simp
 refine hK.out _ _ ?_; clear hK K
 refine Fact.p rfl fun K hK => ?_
 go_simp
 refine hK.out _ _ ?_; clear hK K
 refine Fact.op_skip (g := 5) (d := 11) (b := false) rfl rfl rfl ?_ ?_
 · (
 simp only [Fact.G, Nat.reduceEqDiff, Nat.reduceLT, reduceIte, hf.size, Bool.not_true, Bool.not_false, Bool.not_true, Bool.not_false, q1])
 refine Fact.op_skip (g := 5) (d := 11) (b := false) rfl rfl rfl ?_ ?_
 · (
 simp only [Fact.G, Nat.reduceEqDiff, Nat.reduceLT, reduceIte, hf.size, Bool.not_true, Bool.not_false, Bool.not_true, Bool.not_false, q1])
 refine Fact.op_skip (g := 5) (d := 11) (b := false) rfl rfl rfl ?_ ?_
 · (
 simp only [Fact.G, Nat.reduceEqDiff, Nat.reduceLT, reduceIte, hf.size, Bool.not_true, Bool.not_false, Bool.not_true, Bool.not_false, q1])
 refine Fact.op_skip (g := 5) (d := 11) (b := false) rfl rfl rfl ?_ ?_
 · (
 simp only [Fact.G, Nat.reduceEqDiff, Nat.reduceLT, reduceIte, hf.size, Bool.not_true, Bool.not_false, Bool.not_true, Bool.not_false, q1])
 refine Fact.op_skip (g := 5) (d := 11) (b := false) rfl rfl rfl ?_ ?_
 · (
 simp only [Fact.G, Nat.reduceEqDiff, Nat.reduceLT, reduceIte, hf.size, Bool.not_true, Bool.not_false, Bool.not_true, Bool.not_false, q1])
 refine Fact.op_skip (g := 5) (d := 11) (b := false) rfl rfl rfl ?_ ?_
 · (
 simp only [Fact.G, Nat.reduceEqDiff, Nat.reduceLT, reduceIte, hf.size, Bool.not_true, Bool.not_false, Bool.not_true, Bool.not_false, q1])
 refine Fact.op_skip (g := 5) (d := 11) (b := false) rfl rfl rfl ?_ ?_
 · (
 simp only [Fact.G, Nat.reduceEqDiff, Nat.reduceLT, reduceIte, hf.size, Bool.not_true, Bool.not_false, Bool.not_true, Bool.not_false, q1])
 refine Fact.p rfl fun K hK => ?_
 go_simp
 refine hK.out _ _ ?_; clear hK K
 refine Fact.nil ?_
 refine Fact.q hf (by simp only [Fact.G]) rfl fun fr1 hf1 hT => ?_
 have hKp : _ ∧ _ ∧ _ ∧ _ := ⟨hT 2, hT 3, hT 4, hT 19⟩
 simp only [Fact.G, Nat.reduceEqDiff, Nat.reduceLT, hf.size, reduceIte, s2, s3, s4] at hKp
 clear hT hf s2 s3 s4 b6 b7 b8 b9 b10 b11 b12 b13 b14 b15 b16 b17 b18
 obtain ⟨s2, s3, s4, s19⟩ := hKp
 have hf := hf1; clear hf1
 refine Fact.nx (hK3 _ _ ?_)
 refine Fact.cond_t s19 ?_
 refine wp_seq_k (fun K4 hK4 => ?_)
 refine Fact.region ?_
 refine Fact.p rfl fun K hK => ?_
 go_simp
 refine hK.out _ _ ?_; clear hK K
 refine Fact.nil ?_
 refine Fact.q hf (by simp only [Fact.G]) rfl fun fr1 hf1 hT => ?_
 have hKp : _ ∧ _ ∧ _ := ⟨hT 2, hT 3, hT 4⟩
 simp only [Fact.G, Nat.reduceEqDiff, Nat.reduceLT, hf.size, reduceIte, s2, s3] at hKp
 clear hT hf s2 s3 s4 s19
 obtain ⟨s2, s3, s4⟩ := hKp
 have hf := hf1; clear hf1
 refine Fact.nx (hK4 _ _ ?_)
 refine wp_ret ?_
 refine Fact.then_ret ?_
 exact Fact.ret1 rfl hf s4 ⟨rfl, hbW⟩
set_option maxHeartbeats 4000000 in
set_option maxRecDepth 100000 in
theorem same_len (w : World) (a b : List State) (x y : Nat) (va vb : Value) (ha : RS w va a) (hb : RS w vb b) (hla : ∀ s ∈ a, s.arcs.length ≤ 4611686018427387904) (hlb : ∀ s ∈ b, s.arcs.length ≤ 4611686018427387904) (hlen : a.length ≤ 4611686018427387904) (hlenb : b.length ≤ 4611686018427387904) (h1 : ((x : Int) != (y : Int)) = false) (h2 : ((a.length : Int) != (b.length : Int)) = true) : Calls Tryd.prog 19 #[.agg #[va, .int .u64 x], .agg #[vb, .int .u64 y]] w fun e w1 => e = .returned (.bool false) ∧ Below w.heap.size w w1 := by
 refine calls_of_wp Tryd.func19 rfl ?_
 refine Fact.enter (n := 39) (by kernel_rfl) (fun fr hf hT => ?_)
 have s0 := hT 0 _ rfl
 have s1 := hT 1 _ rfl
 clear hT
 have ha0 := ha; have hb0 := hb
 obtain ⟨Aa, ca, rfl, hca⟩ := ha.form
 obtain ⟨Ab, cb, rfl, hcb⟩ := hb.form
 clear ha hb
 have HLA := Lib.hid hla; have HLB := Lib.hid hlb; clear hla hlb
 have q1 : ((x : Int) != (y : Int)) = false := h1
 have q2 : ((a.length : Int) != (b.length : Int)) = true := h2
 refine wp_seq_k (fun K1 hK1 => ?_)
 refine Fact.region ?_
 refine Fact.p rfl fun K hK => ?_
 go_simp
 refine hK.out _ _ ?_; clear hK K
 refine Fact.p rfl fun K hK => ?_
 go_simp
 refine hK.out _ _ ?_; clear hK K
 refine Fact.p rfl fun K hK => ?_
 go_simp
 refine hK.out _ _ ?_; clear hK K
 refine Fact.nil ?_
 refine Fact.q hf (by simp only [Fact.G]) rfl fun fr1 hf1 hT => ?_
 have hKp : _ ∧ _ ∧ _ := ⟨hT 2, hT 3, hT 4⟩
 simp only [Fact.G, Nat.reduceEqDiff, Nat.reduceLT, hf.size, reduceIte] at hKp
 clear hT hf s0 s1
 obtain ⟨s2, s3, s4⟩ := hKp
 have hf := hf1; clear hf1
 obtain ⟨W1, hW1⟩ : ∃ W1, (w.alloc (.cells #[.slice Aa a.length ca, .int .u64 x] 33)).alloc (.cells #[.slice Ab b.length cb, .int .u64 y] 33) = W1 := ⟨_, rfl⟩
 try rw [hW1]
 obtain ⟨hbW, x0, x1, y0, y1⟩ := two_boxes2 hW1
 try simp only [World.size_alloc] at s3
 clear hW1
 have ha1 := ha0.later hbW; have hb1 := hb0.later hbW
 refine Fact.nx (hK1 _ _ ?_)
 refine wp_seq_k (fun K2 hK2 => ?_)
 refine wp_seq_k (fun K3 hK3 => ?_)
 refine Fact.region ?_
 have b6 := hf.l 6 rfl
 have b7 := hf.l 7 rfl
 have b8 := hf.l 8 rfl
 have b9 := hf.l 9 rfl
 have b10 := hf.l 10 rfl
 have b11 := hf.l 11 rfl
 have b12 := hf.l 12 rfl
 have b13 := hf.l 13 rfl
 have b14 := hf.l 14 rfl
 have b15 := hf.l 15 rfl
 have b16 := hf.l 16 rfl
 have b17 := hf.l 17 rfl
 have b18 := hf.l 18 rfl
 refine Fact.p rfl fun K hK => ?_
 go_simp
 refine hK.out _ _ ?_; clear hK K
 refine Fact.p rfl fun K hK => ?_
 go_simp
 refine hK.out _ _ ?_; clear hK K
 refine Fact.p rfl fun K hK => ?_
 go_simp
 refine hK.out _ _ ?_; clear hK K
 refine Fact.p rfl fun K hK => ?_
 go_simp
 refine hK.out _ _ ?_; clear hK K
 refine Fact.p rfl fun K hK => ?_
 go_simp
 refine hK.out _ _ ?_; clear hK K
 refine Fact.p rfl fun K hK => ?_
 go_simp
 refine hK.out _ _ ?_; clear hK K
 refine Fact.op_guard (g := 5) (d := 11) (b := false) rfl rfl rfl ?_ (fun K hK => ?_)
 · (
 simp only [Fact.G, Nat.reduceEqDiff, Nat.reduceLT, reduceIte, hf.size, Bool.not_true, Bool.not_false, q1, q2])
 go_simp
 refine hK.out _ _ ?_; clear hK K
 refine Fact.op_guard (g := 5) (d := 11) (b := false) rfl rfl rfl ?_ (fun K hK => ?_)
 · (
 simp only [Fact.G, Nat.reduceEqDiff, Nat.reduceLT, reduceIte, hf.size, Bool.not_true, Bool.not_false, q1, q2])
 go_simp
 refine hK.out _ _ ?_; clear hK K
 refine Fact.op_guard (g := 5) (d := 11) (b := false) rfl rfl rfl ?_ (fun K hK => ?_)
 · (
 simp only [Fact.G, Nat.reduceEqDiff, Nat.reduceLT, reduceIte, hf.size, Bool.not_true, Bool.not_false, q1, q2])
 go_simp
 refine hK.out _ _ ?_; clear hK K
 refine Fact.op_guard (g := 5) (d := 11) (b := false) rfl rfl rfl ?_ (fun K hK => ?_)
 · (
 simp only [Fact.G, Nat.reduceEqDiff, Nat.reduceLT, reduceIte, hf.size, Bool.not_true, Bool.not_false, q1, q2])
 go_simp
 refine hK.out _ _ ?_; clear hK K
 refine Fact.op_guard (g := 5) (d := 11) (b := false) rfl rfl rfl ?_ (fun K hK => ?_)
 · (
 simp only [Fact.G, Nat.reduceEqDiff, Nat.reduceLT, reduceIte, hf.size, Bool.not_true, Bool.not_false, q1, q2])
 go_simp
 refine hK.out _ _ ?_; clear hK K
 refine Fact.op_guard (g := 5) (d := 11) (b := false) rfl rfl rfl ?_ (fun K hK => ?_)
 · (
 simp only [Fact.G, Nat.reduceEqDiff, Nat.reduceLT, reduceIte, hf.size, Bool.not_true, Bool.not_false, q1, q2])
 go_simp
 refine hK.out _ _ ?_; clear hK K
 refine Fact.op_guard (g := 5) (d := 11) (b := false) rfl rfl rfl ?_ (fun K hK => ?_)
 · (
 simp only [Fact.G, Nat.reduceEqDiff, Nat.reduceLT, reduceIte, hf.size, Bool.not_true, Bool.not_false, q1, q2])
 go_simp
 refine hK.out _ _ ?_; clear hK K
 refine Fact.p rfl fun K hK => ?_
 go_simp
 refine hK.out _ _ ?_; clear hK K
 refine Fact.nil ?_
 refine Fact.q hf (by simp only [Fact.G]) rfl fun fr1 hf1 hT => ?_
 have hKp : _ ∧ _ ∧ _ ∧ _ := ⟨hT 2, hT 3, hT 4, hT 19⟩
 simp only [Fact.G, Nat.reduceEqDiff, Nat.reduceLT, hf.size, reduceIte, s2, s3, s4] at hKp
 clear hT hf s2 s3 s4 b6 b7 b8 b9 b10 b11 b12 b13 b14 b15 b16 b17 b18
 obtain ⟨s2, s3, s4, s19⟩ := hKp
 have hf := hf1; clear hf1
 refine Fact.nx (hK3 _ _ ?_)
 refine Fact.cond_t s19 ?_
 refine wp_seq_k (fun K4 hK4 => ?_)
 refine Fact.region ?_
 refine Fact.p rfl fun K hK => ?_
 go_simp
 refine hK.out _ _ ?_; clear hK K
 refine Fact.nil ?_
 refine Fact.q hf (by simp only [Fact.G]) rfl fun fr1 hf1 hT => ?_
 have hKp : _ ∧ _ ∧ _ := ⟨hT 2, hT 3, hT 4⟩
 simp only [Fact.G, Nat.reduceEqDiff, Nat.reduceLT, hf.size, reduceIte, s2, s3] at hKp
 clear hT hf s2 s3 s4 s19
 obtain ⟨s2, s3, s4⟩ := hKp
 have hf := hf1; clear hf1
 refine Fact.nx (hK4 _ _ ?_)
 refine wp_ret ?_
 refine Fact.then_ret ?_
 exact Fact.ret1 rfl hf s4 ⟨rfl, hbW⟩
set_option maxHeartbeats 4000000 in
set_option maxRecDepth 100000 in
theorem same_all (w : World) (a b : List State) (x y : Nat) (va vb : Value) (ha : RS w va a) (hb : RS w vb b) (hla : ∀ s ∈ a, s.arcs.length ≤ 4611686018427387904) (hlb : ∀ s ∈ b, s.arcs.length ≤ 4611686018427387904) (hlen : a.length ≤ 4611686018427387904) (hlenb : b.length ≤ 4611686018427387904) (h1 : ((x : Int) != (y : Int)) = false) (h2 : ((a.length : Int) != (b.length : Int)) = false) : Calls Tryd.prog 19 #[.agg #[va, .int .u64 x], .agg #[vb, .int .u64 y]] w fun e w1 => e = .returned (.bool (decide (a = b))) ∧ Below w.heap.size w w1 := by
 refine calls_of_wp Tryd.func19 rfl ?_
 refine Fact.enter (n := 39) (by kernel_rfl) (fun fr hf hT => ?_)
 have s0 := hT 0 _ rfl
 have s1 := hT 1 _ rfl
 clear hT
 have ha0 := ha; have hb0 := hb
 obtain ⟨Aa, ca, rfl, hca⟩ := ha.form
 obtain ⟨Ab, cb, rfl, hcb⟩ := hb.form
 clear ha hb
 have HLA := Lib.hid hla; have HLB := Lib.hid hlb; clear hla hlb
 have q1 : ((x : Int) != (y : Int)) = false := h1
 have q2 : ((a.length : Int) != (b.length : Int)) = false := h2
 refine wp_seq_k (fun K1 hK1 => ?_)
 refine Fact.region ?_
 refine Fact.p rfl fun K hK => ?_
 go_simp
 refine hK.out _ _ ?_; clear hK K
 refine Fact.p rfl fun K hK => ?_
 go_simp
 refine hK.out _ _ ?_; clear hK K
 refine Fact.p rfl fun K hK => ?_
 go_simp
 refine hK.out _ _ ?_; clear hK K
 refine Fact.nil ?_
 refine Fact.q hf (by simp only [Fact.G]) rfl fun fr1 hf1 hT => ?_
 have hKp : _ ∧ _ ∧ _ := ⟨hT 2, hT 3, hT 4⟩
 simp only [Fact.G, Nat.reduceEqDiff, Nat.reduceLT, hf.size, reduceIte] at hKp
 clear hT hf s0 s1
 obtain ⟨s2, s3, s4⟩ := hKp
 have hf := hf1; clear hf1
 obtain ⟨W1, hW1⟩ : ∃ W1, (w.alloc (.cells #[.slice Aa a.length ca, .int .u64 x] 33)).alloc (.cells #[.slice Ab b.length cb, .int .u64 y] 33) = W1 := ⟨_, rfl⟩
 try rw [hW1]
 obtain ⟨hbW, x0, x1, y0, y1⟩ := two_boxes2 hW1
 try simp only [World.size_alloc] at s3
 clear hW1
 have ha1 := ha0.later hbW; have hb1 := hb0.later hbW
 refine Fact.nx (hK1 _ _ ?_)
 refine wp_seq_k (fun K2 hK2 => ?_)
 refine wp_seq_k (fun K3 hK3 => ?_)
 refine Fact.region ?_
 have b6 := hf.l 6 rfl
 have b7 := hf.l 7 rfl
 have b8 := hf.l 8 rfl
 have b9 := hf.l 9 rfl
 have b10 := hf.l 10 rfl
 have b11 := hf.l 11 rfl
 have b12 := hf.l 12 rfl
 have b13 := hf.l 13 rfl
 have b14 := hf.l 14 rfl
 have b15 := hf.l 15 rfl
 have b16 := hf.l 16 rfl
 have b17 := hf.l 17 rfl
 have b18 := hf.l 18 rfl
 refine Fact.p rfl fun K hK => ?_
 go_simp
 refine hK.out _ _ ?_; clear hK K
 refine Fact.p rfl fun K hK => ?_
 go_simp
 refine hK.out _ _ ?_; clear hK K
 refine Fact.p rfl fun K hK => ?_
 go_simp
 refine hK.out _ _ ?_; clear hK K
 refine Fact.p rfl fun K hK => ?_
 go_simp
 refine hK.out _ _ ?_; clear hK K
 refine Fact.p rfl fun K hK => ?_
 go_simp
 refine hK.out _ _ ?_; clear hK K
 refine Fact.p rfl fun K hK => ?_
 go_simp
 refine hK.out _ _ ?_; clear hK K
 refine Fact.op_guard (g := 5) (d := 11) (b := false) rfl rfl rfl ?_ (fun K hK => ?_)
 · (
 simp only [Fact.G, Nat.reduceEqDiff, Nat.reduceLT, reduceIte, hf.size, Bool.not_true, Bool.not_false, q1, q2])
 go_simp
 refine hK.out _ _ ?_; clear hK K
 refine Fact.op_guard (g := 5) (d := 11) (b := false) rfl rfl rfl ?_ (fun K hK => ?_)
 · (
 simp only [Fact.G, Nat.reduceEqDiff, Nat.reduceLT, reduceIte, hf.size, Bool.not_true, Bool.not_false, q1, q2])
 go_simp
 refine hK.out _ _ ?_; clear hK K
 refine Fact.op_guard (g := 5) (d := 11) (b := false) rfl rfl rfl ?_ (fun K hK => ?_)
 · (
 simp only [Fact.G, Nat.reduceEqDiff, Nat.reduceLT, reduceIte, hf.size, Bool.not_true, Bool.not_false, q1, q2])
 go_simp
 refine hK.out _ _ ?_; clear hK K
 refine Fact.op_guard (g := 5) (d := 11) (b := false) rfl rfl rfl ?_ (fun K hK => ?_)
 · (
 simp only [Fact.G, Nat.reduceEqDiff, Nat.reduceLT, reduceIte, hf.size, Bool.not_true, Bool.not_false, q1, q2])
 go_simp
 refine hK.out _ _ ?_; clear hK K
 refine Fact.op_guard (g := 5) (d := 11) (b := false) rfl rfl rfl ?_ (fun K hK => ?_)
 · (
 simp only [Fact.G, Nat.reduceEqDiff, Nat.reduceLT, reduceIte, hf.size, Bool.not_true, Bool.not_false, q1, q2])
 go_simp
 refine hK.out _ _ ?_; clear hK K
 refine Fact.op_guard (g := 5) (d := 11) (b := false) rfl rfl rfl ?_ (fun K hK => ?_)
 · (
 simp only [Fact.G, Nat.reduceEqDiff, Nat.reduceLT, reduceIte, hf.size, Bool.not_true, Bool.not_false, q1, q2])
 go_simp
 refine hK.out _ _ ?_; clear hK K
 refine Fact.op_guard (g := 5) (d := 11) (b := false) rfl rfl rfl ?_ (fun K hK => ?_)
 · (
 simp only [Fact.G, Nat.reduceEqDiff, Nat.reduceLT, reduceIte, hf.size, Bool.not_true, Bool.not_false, q1, q2])
 go_simp
 refine hK.out _ _ ?_; clear hK K
 refine Fact.p rfl fun K hK => ?_
 go_simp
 refine hK.out _ _ ?_; clear hK K
 refine Fact.nil ?_
 refine Fact.q hf (by simp only [Fact.G]) rfl fun fr1 hf1 hT => ?_
 have hKp : _ ∧ _ ∧ _ ∧ _ := ⟨hT 2, hT 3, hT 4, hT 19⟩
 simp only [Fact.G, Nat.reduceEqDiff, Nat.reduceLT, hf.size, reduceIte, s2, s3, s4] at hKp
 clear hT hf s2 s3 s4 b6 b7 b8 b9 b10 b11 b12 b13 b14 b15 b16 b17 b18
 obtain ⟨s2, s3, s4, s19⟩ := hKp
 have hf := hf1; clear hf1
 refine Fact.nx (hK3 _ _ ?_)
 refine Fact.cond_f s19 ?_
 have hl : a.length = b.length := by have := bne_eq_false_iff_eq.1 h2; omega
 have HL := Lib.hid hl; clear hl
 clear h1 h2 q1 q2 x1 y1 ha0 hb0
 refine wp_skip ?_
 refine Fact.nx (hK2 _ _ ?_)
 refine wp_seq_k (fun K4 hK4 => ?_)
 refine wp_seq_k (fun K5 hK5 => ?_)
 refine Fact.region ?_
 refine Fact.p rfl fun K hK => ?_
 go_simp
 refine hK.out _ _ ?_; clear hK K
 refine Fact.nil ?_
 refine Fact.q hf (by simp only [Fact.G]) rfl fun fr1 hf1 hT => ?_
 have hKp : _ ∧ _ ∧ _ ∧ _ := ⟨hT 2, hT 3, hT 4, hT 5⟩
 simp only [Fact.G, Nat.reduceEqDiff, Nat.reduceLT, hf.size, reduceIte, s2, s3, s4] at hKp
 clear hT hf s2 s3 s4 s19
 obtain ⟨s2, s3, s4, s5⟩ := hKp
 have hf := hf1; clear hf1
 refine Fact.nx (hK5 _ _ ?_)
 refine wp_block ?_
 refine wp_loop_ghost (fun gk fr wr => ∃ (i : Nat), gk = a.length - i ∧ i ≤ a.length ∧ Fact.Fr 39 fr ∧ fr.tmps[2]? = some (.pointer (some ⟨w.heap.size, 0, none⟩)) ∧ fr.tmps[3]? = some (.pointer (some ⟨w.heap.size + 1, 0, none⟩)) ∧ fr.tmps[5]? = some (.int .i64 i) ∧ a.take i = b.take i ∧ Below W1.heap.size W1 wr) (a.length) ?_ ?_
 · (
 exact ⟨0, rfl, Nat.zero_le _, hf, s2, s3, s5, rfl, Below.refl _ _⟩)
 · (
 clear hf s2 s3 s4 s5
 rintro gk fr wr ⟨i, hk, hi, hf, s2, s3, s5, hta, hb⟩
 have HK := Lib.hid hk; have HT := Lib.hid hta; clear hk hta
 have x0r := cell_later hb x0; have y0r := cell_later hb y0
 refine wp_seq_k (fun K6 hK6 => ?_)
 refine wp_seq_k (fun K7 hK7 => ?_)
 refine Fact.region ?_
 have b20 := hf.l 20 rfl
 have b21 := hf.l 21 rfl
 have b22 := hf.l 22 rfl
 have b23 := hf.l 23 rfl
 refine Fact.p rfl fun K hK => ?_
 go_simp
 refine hK.out _ _ ?_; clear hK K
 refine Fact.p rfl fun K hK => ?_
 go_simp
 refine hK.out _ _ ?_; clear hK K
 refine Fact.p rfl fun K hK => ?_
 go_simp
 refine hK.out _ _ ?_; clear hK K
 refine Fact.p rfl fun K hK => ?_
 go_simp
 refine hK.out _ _ ?_; clear hK K
 refine Fact.p rfl fun K hK => ?_
 go_simp
 refine hK.out _ _ ?_; clear hK K
 refine Fact.nil ?_
 refine Fact.q hf (by simp only [Fact.G]) rfl fun fr1 hf1 hT => ?_
 have hKp : _ ∧ _ ∧ _ ∧ _ ∧ _ ∧ _ ∧ _ ∧ _ := ⟨hT 2, hT 3, hT 5, hT 20, hT 21, hT 22, hT 23, hT 24⟩
 simp only [Fact.G, Nat.reduceEqDiff, Nat.reduceLT, hf.size, reduceIte, s2, s3, s5] at hKp
 clear hT hf s2 s3 s5 b20 b21 b22 b23
 obtain ⟨s2, s3, s5, s20, s21, s22, s23, s24⟩ := hKp
 have hf := hf1; clear hf1
 refine Fact.nx (hK7 _ _ ?_)
 refine Fact.cond_s s24 (fun hq => ?_) (fun hq => ?_)
 · (
 have hlt : i < a.length := by have h9 := of_decide_eq_true hq; omega
 have hltb : i < b.length := by have := HL.out; omega
 have HQ := Lib.hid hq; clear hq
 obtain ⟨p, hp⟩ : ∃ p, a[i]? = some p := ⟨_, List.getElem?_eq_getElem hlt⟩
 obtain ⟨q, hqb⟩ : ∃ q, b[i]? = some q := ⟨_, List.getElem?_eq_getElem (by have := HL.out; omega)⟩
 obtain ⟨g1, o1, av1, rfl, hs1⟩ := (ha1.later hb).at_ hp
 obtain ⟨g2, o2, av2, rfl, hs2⟩ := (hb1.later hb).at_ hqb
 have d0 := hs1.c0; have d1 := hs1.c1; have d2 := hs1.c2; have e0 := hs2.c0; have e1 := hs2.c1; have e2 := hs2.c2
 have hra1 := hs1.arcs; have hra2 := hs2.arcs
 have hl1 := HLA.out p (List.mem_of_getElem? hp); have hl2 := HLB.out q (List.mem_of_getElem? hqb)
 have HP := Lib.hid hp; have HB := Lib.hid hqb; clear hp hqb hs1 hs2
 refine wp_skip ?_
 refine Fact.nx (hK6 _ _ ?_)
 refine wp_seq_k (fun K8 hK8 => ?_)
 refine wp_block ?_
 refine wp_seq_k (fun K9 hK9 => ?_)
 refine Stab.todo_begin (n := 39) (Stab.OkOps.of (by kernel_rfl)) (fun hok => ?_)
 apply Stab.t 0 _ hf.size hok.out rfl
 · (
 intro fr1 w1 hh hd hk K hK
 refine Stab.op_plain (o := _) rfl rfl ?_
 have s2 := Stab.o hh (by kernel_rfl) s2
 clear hd
 go_simp
 exact hK.out _ rfl _ _ (Below.refl _ _) rfl)
 apply Stab.t 1 _ hf.size hok.out rfl
 · (
 intro fr1 w1 hh hd hk K hK
 refine Stab.op_plain (o := _) rfl rfl ?_
 have s27 := Stab.u 0 0 hd hk rfl [] (by kernel_rfl) rfl rfl rfl
 clear hd
 replace x0r := cell_later hh.ext x0r
 replace y0r := cell_later hh.ext y0r
 replace d0 := cell_later hh.ext d0
 replace d1 := cell_later hh.ext d1
 replace d2 := cell_later hh.ext d2
 replace e0 := cell_later hh.ext e0
 replace e1 := cell_later hh.ext e1
 replace e2 := cell_later hh.ext e2
 replace hra1 := hra1.later hh.ext
 replace hra2 := hra2.later hh.ext
 go_simp
 exact hK.out _ rfl _ _ (Below.refl _ _) rfl)
 refine Stab.mvO (k := 2) s5 hf.size hok.out rfl rfl rfl (.inl rfl) (by kernel_rfl) ?_
 apply Stab.t 3 _ hf.size hok.out rfl
 · (
 intro fr1 w1 hh hd hk K hK
 refine Stab.op_plain (o := _) rfl rfl ?_
 have s28 := Stab.u 1 1 hd hk rfl [] (by kernel_rfl) rfl rfl rfl
 have s29 := Stab.u 2 0 hd hk rfl [] (by kernel_rfl) rfl rfl rfl
 clear hd
 go_simp
 try rw [if_pos (by omega)]
 exact hK.out _ rfl _ _ (Below.refl _ _) rfl)
 apply Stab.t 4 _ hf.size hok.out rfl
 · (
 intro fr1 w1 hh hd hk K hK
 refine Stab.op_plain (o := _) rfl rfl ?_
 have s30 := Stab.u 3 0 hd hk rfl [] (by kernel_rfl) rfl rfl rfl
 clear hd
 replace x0r := cell_later hh.ext x0r
 replace y0r := cell_later hh.ext y0r
 replace d0 := cell_later hh.ext d0
 replace d1 := cell_later hh.ext d1
 replace d2 := cell_later hh.ext d2
 replace e0 := cell_later hh.ext e0
 replace e1 := cell_later hh.ext e1
 replace e2 := cell_later hh.ext e2
 replace hra1 := hra1.later hh.ext
 replace hra2 := hra2.later hh.ext
 go_simp
 exact hK.out _ rfl _ _ (Below.refl _ _) rfl)
 apply Stab.t 5 _ hf.size hok.out rfl
 · (
 intro fr1 w1 hh hd hk K hK
 refine Stab.op_plain (o := _) rfl rfl ?_
 have s3 := Stab.o hh (by kernel_rfl) s3
 clear hd
 go_simp
 exact hK.out _ rfl _ _ (Below.refl _ _) rfl)
 apply Stab.t 6 _ hf.size hok.out rfl
 · (
 intro fr1 w1 hh hd hk K hK
 refine Stab.op_plain (o := _) rfl rfl ?_
 have s32 := Stab.u 5 0 hd hk rfl [] (by kernel_rfl) rfl rfl rfl
 clear hd
 replace x0r := cell_later hh.ext x0r
 replace y0r := cell_later hh.ext y0r
 replace d0 := cell_later hh.ext d0
 replace d1 := cell_later hh.ext d1
 replace d2 := cell_later hh.ext d2
 replace e0 := cell_later hh.ext e0
 replace e1 := cell_later hh.ext e1
 replace e2 := cell_later hh.ext e2
 replace hra1 := hra1.later hh.ext
 replace hra2 := hra2.later hh.ext
 go_simp
 exact hK.out _ rfl _ _ (Below.refl _ _) rfl)
 refine Stab.mvO (k := 7) s5 hf.size hok.out rfl rfl rfl (.inl rfl) (by kernel_rfl) ?_
 apply Stab.t 8 _ hf.size hok.out rfl
 · (
 intro fr1 w1 hh hd hk K hK
 refine Stab.op_plain (o := _) rfl rfl ?_
 have s33 := Stab.u 6 1 hd hk rfl [] (by kernel_rfl) rfl rfl rfl
 have s34 := Stab.u 7 0 hd hk rfl [] (by kernel_rfl) rfl rfl rfl
 clear hd
 go_simp
 try rw [if_pos (by omega)]
 exact hK.out _ rfl _ _ (Below.refl _ _) rfl)
 apply Stab.t 9 _ hf.size hok.out rfl
 · (
 intro fr1 w1 hh hd hk K hK
 refine Stab.op_plain (o := _) rfl rfl ?_
 have s35 := Stab.u 8 0 hd hk rfl [] (by kernel_rfl) rfl rfl rfl
 clear hd
 replace x0r := cell_later hh.ext x0r
 replace y0r := cell_later hh.ext y0r
 replace d0 := cell_later hh.ext d0
 replace d1 := cell_later hh.ext d1
 replace d2 := cell_later hh.ext d2
 replace e0 := cell_later hh.ext e0
 replace e1 := cell_later hh.ext e1
 replace e2 := cell_later hh.ext e2
 replace hra1 := hra1.later hh.ext
 replace hra2 := hra2.later hh.ext
 go_simp
 exact hK.out _ rfl _ _ (Below.refl _ _) rfl)
 apply Stab.t 10 _ hf.size hok.out rfl
 · (
 intro fr1 w1 hh hd hk K hK
 refine Stab.op_plain (o := _) rfl rfl ?_
 have s31 := Stab.u 4 5 hd hk rfl [] (by kernel_rfl) rfl rfl rfl
 have s36 := Stab.u 9 0 hd hk rfl [] (by kernel_rfl) rfl rfl rfl
 clear hd
 replace x0r := cell_later hh.ext x0r
 replace y0r := cell_later hh.ext y0r
 replace d0 := cell_later hh.ext d0
 replace d1 := cell_later hh.ext d1
 replace d2 := cell_later hh.ext d2
 replace e0 := cell_later hh.ext e0
 replace e1 := cell_later hh.ext e1
 replace e2 := cell_later hh.ext e2
 replace hra1 := hra1.later hh.ext
 replace hra2 := hra2.later hh.ext
 go_simp
 go_at_call 41; refine (alike w1 p q av1 av2 hra1 hra2 hl1 hl2).mono ?_; rintro e w2 ⟨rfl, hb⟩
 exact hK.out _ rfl _ _ hb rfl)
 apply Stab.t 11 _ hf.size hok.out rfl
 · (
 intro fr1 w1 hh hd hk K hK
 refine Stab.op_plain (o := _) rfl rfl ?_
 have s37 := Stab.u 10 0 hd hk rfl [] (by kernel_rfl) rfl rfl rfl
 clear hd
 go_simp
 exact hK.out _ rfl _ _ (Below.refl _ _) rfl)
 refine Stab.todo_facts (n := 39) (by kernel_rfl) hf.size hok.out rfl (fun fr1 w1 hh hg => ?_)
 replace s2 := Stab.o hh (by kernel_rfl) s2
 replace s3 := Stab.o hh (by kernel_rfl) s3
 replace s5 := Stab.o hh (by kernel_rfl) s5
 replace s20 := Stab.o hh (by kernel_rfl) s20
 replace s21 := Stab.o hh (by kernel_rfl) s21
 replace s22 := Stab.o hh (by kernel_rfl) s22
 replace s23 := Stab.o hh (by kernel_rfl) s23
 replace s24 := Stab.o hh (by kernel_rfl) s24
 have s27 := Stab.e 0 11 hg rfl rfl rfl rfl
 have s28 := Stab.e 1 10 hg rfl rfl rfl rfl
 have s29 := Stab.e 2 9 hg rfl rfl rfl rfl
 have s30 := Stab.e 3 8 hg rfl rfl rfl rfl
 have s31 := Stab.e 4 7 hg rfl rfl rfl rfl
 have s32 := Stab.e 5 6 hg rfl rfl rfl rfl
 have s33 := Stab.e 6 5 hg rfl rfl rfl rfl
 have s34 := Stab.e 7 4 hg rfl rfl rfl rfl
 have s35 := Stab.e 8 3 hg rfl rfl rfl rfl
 have s36 := Stab.e 9 2 hg rfl rfl rfl rfl
 have s37 := Stab.e 10 1 hg rfl rfl rfl rfl
 have s38 := Stab.e 11 0 hg rfl rfl rfl rfl
 have hf1 : Fact.Fr 39 fr1 := ⟨hh.size.trans hf.size, hh.defers.trans hf.defers⟩
 have hx := hh.ext
 replace x0r := cell_later hx x0r
 replace y0r := cell_later hx y0r
 replace d0 := cell_later hx d0
 replace d1 := cell_later hx d1
 replace d2 := cell_later hx d2
 replace e0 := cell_later hx e0
 replace e1 := cell_later hx e1
 replace e2 := cell_later hx e2
 replace hra1 := hra1.later hx
 replace hra2 := hra2.later hx
 clear hg hh hf hok
 have hf := hf1; clear hf1
 refine Fact.nx (hK9 _ _ ?_)
 refine Fact.cond_s s38 (fun hq2 => ?_) (fun hq2 => ?_)
 · (
 have hne : a ≠ b := fun e => of_decide_eq_false (show decide (p = q) = false by simpa using hq2) (Option.some.inj (by rw [← HP.out, ← HB.out, e]))
 have HN := Lib.hid hne; clear hne hq2
 refine wp_seq_k (fun K10 hK10 => ?_)
 refine Fact.region ?_
 refine Fact.p rfl fun K hK => ?_
 go_simp
 refine hK.out _ _ ?_; clear hK K
 refine Fact.nil ?_
 refine Fact.q hf (by simp only [Fact.G]) rfl fun fr1 hf1 hT => ?_
 have hKp : _ ∧ _ ∧ _ ∧ _ ∧ _ ∧ _ ∧ _ ∧ _ ∧ _ ∧ _ ∧ _ ∧ _ ∧ _ ∧ _ ∧ _ ∧ _ ∧ _ ∧ _ ∧ _ ∧ _ ∧ _ := ⟨hT 2, hT 3, hT 4, hT 5, hT 20, hT 21, hT 22, hT 23, hT 24, hT 27, hT 28, hT 29, hT 30, hT 31, hT 32, hT 33, hT 34, hT 35, hT 36, hT 37, hT 38⟩
 simp only [Fact.G, Nat.reduceEqDiff, Nat.reduceLT, hf.size, reduceIte, s2, s3, s5, s20, s21, s22, s23, s24, s27, s28, s29, s30, s31, s32, s33, s34, s35, s36, s37, s38] at hKp
 clear hT hf s2 s3 s5 s20 s21 s22 s23 s24 s27 s28 s29 s30 s31 s32 s33 s34 s35 s36 s37 s38
 obtain ⟨s2, s3, s4, s5, s20, s21, s22, s23, s24, s27, s28, s29, s30, s31, s32, s33, s34, s35, s36, s37, s38⟩ := hKp
 have hf := hf1; clear hf1
 refine Fact.nx (hK10 _ _ ?_)
 refine wp_ret ?_
 refine Fact.block_ret ?_
 refine Fact.then_ret ?_
 refine Fact.then_ret ?_
 refine Fact.block_ret ?_
 refine Fact.then_ret ?_
 exact Fact.ret1 rfl hf s4 ⟨by rw [decide_eq_false HN.out], hbW.trans ((hb.trans (hx.mono hb.size)).mono hbW.size)⟩)
 · (
 have hpq : p = q := by simpa using hq2
 have hts : a.take (i + 1) = b.take (i + 1) := by rw [List.take_add_one, List.take_add_one, HT.out, HP.out, HB.out, hpq]
 have HTS := Lib.hid hts; clear hts hpq hq2
 refine wp_skip ?_
 refine Fact.block_normal ?_
 refine Fact.nx (hK8 _ _ ?_)
 refine Fact.region ?_
 have b25 := hf.l 25 rfl
 have b26 := hf.l 26 rfl
 refine Fact.p rfl fun K hK => ?_
 go_simp
 refine hK.out _ _ ?_; clear hK K
 refine Fact.p rfl fun K hK => ?_
 go_simp
 try simp (disch := omega) only [Fact.wrap_i64, Fact.wrap_u8, Fact.wrap_u32, Fact.wrap_u64]
 refine hK.out _ _ ?_; clear hK K
 refine Fact.p rfl fun K hK => ?_
 go_simp
 refine hK.out _ _ ?_; clear hK K
 refine Fact.nil ?_
 refine Fact.q hf (by simp only [Fact.G]) rfl fun fr1 hf1 hT => ?_
 have hKp : _ ∧ _ ∧ _ ∧ _ ∧ _ ∧ _ ∧ _ ∧ _ ∧ _ ∧ _ ∧ _ ∧ _ ∧ _ ∧ _ ∧ _ ∧ _ ∧ _ ∧ _ ∧ _ ∧ _ ∧ _ ∧ _ := ⟨hT 2, hT 3, hT 5, hT 20, hT 21, hT 22, hT 23, hT 24, hT 25, hT 26, hT 27, hT 28, hT 29, hT 30, hT 31, hT 32, hT 33, hT 34, hT 35, hT 36, hT 37, hT 38⟩
 simp only [Fact.G, Nat.reduceEqDiff, Nat.reduceLT, hf.size, reduceIte, s2, s3, s20, s21, s22, s23, s24, s27, s28, s29, s30, s31, s32, s33, s34, s35, s36, s37, s38] at hKp
 clear hT hf s2 s3 s5 s20 s21 s22 s23 s24 s27 s28 s29 s30 s31 s32 s33 s34 s35 s36 s37 s38 b25 b26
 obtain ⟨s2, s3, s5, s20, s21, s22, s23, s24, s25, s26, s27, s28, s29, s30, s31, s32, s33, s34, s35, s36, s37, s38⟩ := hKp
 have hf := hf1; clear hf1
 refine Fact.then_normal ?_
 exact ⟨_, by have := HK.out; omega, i + 1, rfl, by omega, hf, s2, s3, by rw [s5]; rfl, HTS.out, hb.trans (hx.mono hb.size)⟩))
 · (
 have hie : i = a.length := by have h9 := of_decide_eq_false hq; omega
 have HIE := Lib.hid hie; clear hie hq
 refine wp_exit ?_
 refine Fact.then_exit ?_
 refine Fact.then_exit ?_
 refine Fact.block_exit ?_
 refine Fact.nx (hK4 _ _ ?_)
 refine wp_seq_k (fun K11 hK11 => ?_)
 refine Fact.region ?_
 refine Fact.p rfl fun K hK => ?_
 go_simp
 refine hK.out _ _ ?_; clear hK K
 refine Fact.nil ?_
 refine Fact.q hf (by simp only [Fact.G]) rfl fun fr1 hf1 hT => ?_
 have hKp := hT 4
 simp only [Fact.G, Nat.reduceEqDiff, Nat.reduceLT, hf.size, reduceIte] at hKp
 clear hT hf s2 s3 s5 s20 s21 s22 s23 s24
 have s4 := hKp; clear hKp
 have hf := hf1; clear hf1
 refine Fact.nx (hK11 _ _ ?_)
 refine wp_ret ?_
 refine Fact.ret1 rfl hf s4 ⟨?_, hbW.trans (hb.mono hbW.size)⟩
 have h5 := HT.out
 rw [HIE.out] at h5
 rw [decide_eq_true (by rwa [List.take_length, HL.out, List.take_length] at h5)]))
theorem rsame (w : World) (a b : List State) (x y : Nat) (va vb : Value) (ha : RS w va a) (hb : RS w vb b) (hla : ∀ s ∈ a, s.arcs.length ≤ 4611686018427387904) (hlb : ∀ s ∈ b, s.arcs.length ≤ 4611686018427387904) (hlen : a.length ≤ 4611686018427387904) (hlenb : b.length ≤ 4611686018427387904) : Calls Tryd.prog 19 #[.agg #[va, .int .u64 x], .agg #[vb, .int .u64 y]] w fun e w1 => e = .returned (.bool (decide (x = y ∧ a = b))) ∧ Below w.heap.size w w1 := by
  have hd : ∀ z, z = decide (x = y ∧ a = b) → ∀ {e : Ending} {w1 : World}, e = .returned (.bool z) ∧ Below w.heap.size w w1 → e = .returned (.bool (decide (x = y ∧ a = b))) ∧ Below w.heap.size w w1 := fun z hz e w1 h => by rw [← hz]; exact h
  cases h1 : ((x : Int) != (y : Int)) with
  | true => exact (same_init w a b x y va vb ha hb hla hlb hlen hlenb h1).mono fun e w1 => hd _ (decide_eq_false (fun h => by obtain ⟨rfl, rfl⟩ := h; simp at h1)).symm
  | false =>
    cases h2 : ((a.length : Int) != (b.length : Int)) with
    | true => exact (same_len w a b x y va vb ha hb hla hlb hlen hlenb h1 h2).mono fun e w1 => hd _ (decide_eq_false (fun h => by obtain ⟨rfl, rfl⟩ := h; simp at h2)).symm
    | false =>
      refine (same_all w a b x y va vb ha hb hla hlb hlen hlenb h1 h2).mono fun e w1 => hd _ ?_
      have e1 : x = y := by have := bne_eq_false_iff_eq.1 h1; omega
      simp [e1]

end Dw
end Go.Proofs.YtgjfhedgdbbinaaDoor
