/- Dawg: made. -/
import Derived.Test.YtgjfhedgdbbinaaDoorDLit
namespace Go.Proofs.YtgjfhedgdbbinaaDoor
open Go.RowKit
set_option linter.unusedSimpArgs false
set_option linter.unusedVariables false
set_option linter.unnecessarySimpa false
namespace Dw
set_option maxHeartbeats 4000000 in
set_option maxRecDepth 100000 in
theorem made25 (w : World) (es : List Ent) (B : Nat) (v : Value) (hre : RE w B v es) (hlen : es.length ≤ 30) (hes : ∀ e ∈ es, okE e) (sv : Value) (ss : List State) (init : Nat) (hrs : RS w sv ss) (hb : build (es.map wvE) = ⟨ss, init⟩) (hc : chkN es = 0) (hr : rightF ss init = true) : Calls Tryd.prog 25 #[v, .agg #[sv, .int .u64 init]] w fun e w1 => e = .returned (.bool true) ∧ Below w.heap.size w w1 := by
 refine calls_of_wp Tryd.func25 rfl ?_
 refine Fact.enter (n := 23) (by kernel_rfl) (fun fr hf hT => ?_)
 have s0 := hT 0 _ rfl
 have s1 := hT 1 _ rfl
 clear hT
 have hre0 := hre.any
 obtain ⟨Aw, cw, rfl, hcw⟩ := hrs.form
 clear hre
 have HB := Lib.hid hb; have HC := Lib.hid hc; have HR := Lib.hid hr; have HE := Lib.hid hes; clear hb hc hr hes
 refine wp_seq_k (fun K1 hK1 => ?_)
 refine Fact.region ?_
 refine Fact.p rfl fun K hK => ?_
 go_simp
 refine hK.out _ _ ?_; clear hK K
 refine Fact.p rfl fun K hK => ?_
 go_simp
 refine hK.out _ _ ?_; clear hK K
 refine Fact.nil ?_
 refine Fact.q hf (by simp only [Fact.G]) rfl fun fr1 hf1 hT => ?_
 have hKp : _ ∧ _ ∧ _ := ⟨hT 0, hT 3, hT 4⟩
 simp only [Fact.G, Nat.reduceEqDiff, Nat.reduceLT, hf.size, reduceIte, s0] at hKp
 clear hT hf s0 s1
 obtain ⟨s0, s3, s4⟩ := hKp
 have hf := hf1; clear hf1
 obtain ⟨W0, hW0⟩ : ∃ W0, w.alloc (.cells #[.slice Aw ss.length cw, .int .u64 init] 33) = W0 := ⟨_, rfl⟩
 try rw [hW0]
 obtain ⟨hb0, x0, x1, -, hz0_⟩ := box2 hW0
 clear hW0
 have hz0 : w.heap.size < W0.heap.size := by rw [hz0_]; exact Nat.lt_succ_self _
 clear hz0_
 have hre1 := (hre0.below hb0).any
 have hrs0 := hrs.later hb0
 clear hrs hre0
 refine Fact.nx (hK1 _ _ ?_)
 refine wp_seq_k (fun K2 hK2 => ?_)
 refine Fact.region ?_
 have b8 := hf.l 8 rfl
 have b9 := hf.l 9 rfl
 have b7 := hf.l 7 rfl
 have b10 := hf.l 10 rfl
 have b11 := hf.l 11 rfl
 have b5 := hf.l 5 rfl
 refine Fact.p rfl fun K hK => ?_
 go_simp
 refine hK.out _ _ ?_; clear hK K
 refine Fact.p rfl fun K hK => ?_
 go_simp
 go_at_call 8; refine (build8 W0 es W0.heap.size v (Nat.le_refl _) hre1 hlen HE.out).mono ?_; rintro e w1 ⟨sv, rfl, hr1, hok1, hn1, hb1⟩
 rw [HC.out]
 have hf1 : buildF es = ⟨ss, init⟩ := by unfold buildF; rw [if_pos HC.out, HB.out]
 rw [hf1] at hr1 hok1 hn1
 dsimp only at hr1 hok1 hn1
 rw [hf1]
 clear hf1
 obtain ⟨Ab, cb, rfl, hcb⟩ := hr1.form
 have HOK := Lib.hid hok1; clear hok1
 dsimp only
 refine hK.out _ _ ?_; clear hK K
 refine Fact.p rfl fun K hK => ?_
 go_simp
 refine hK.out _ _ ?_; clear hK K
 refine Fact.p rfl fun K hK => ?_
 go_simp
 refine hK.out _ _ ?_; clear hK K
 refine Fact.p rfl fun K hK => ?_
 go_simp
 refine hK.out _ _ ?_; clear hK K
 refine Fact.p rfl fun K hK => ?_
 go_simp
 refine hK.out _ _ ?_; clear hK K
 refine Fact.p rfl fun K hK => ?_
 go_simp
 refine hK.out _ _ ?_; clear hK K
 refine Fact.p rfl fun K hK => ?_
 go_simp
 refine hK.out _ _ ?_; clear hK K
 refine Fact.nil ?_
 refine Fact.q hf (by simp only [Fact.G]) rfl fun fr1 hf1 hT => ?_
 have hKp : _ ∧ _ ∧ _ ∧ _ := ⟨hT 3, hT 4, hT 5, hT 6⟩
 simp only [Fact.G, Nat.reduceEqDiff, Nat.reduceLT, hf.size, reduceIte, s3, s4] at hKp
 clear hT hf s0 s3 s4 b8 b9 b7 b10 b11 b5
 obtain ⟨s3, s4, s5, s6⟩ := hKp
 have hf := hf1; clear hf1
 obtain ⟨W2, hW2⟩ : ∃ x, w1.alloc (.cells #[.slice Ab ss.length cb, .int .u64 init] 33) = x := ⟨_, rfl⟩
 rw [hW2]
 obtain ⟨hb2, y0, y1, -, -⟩ := box2 hW2
 clear hW2
 have hr2 := hr1.later hb2
 have hb12 := hb1.trans (hb2.mono hb1.size)
 have hrs2 := hrs0.later hb12
 replace x0 := cell_later hb12 x0; replace x1 := cell_later hb12 x1
 have hl2 : ∀ s ∈ ss, s.arcs.length ≤ 4611686018427387904 := fun s hs => by have := (HOK.out s hs).few; omega
 have HL := Lib.hid hl2; clear hl2 hr1 hrs0
 refine Fact.nx (hK2 _ _ ?_)
 refine wp_seq_k (fun K3 hK3 => ?_)
 refine Fact.region ?_
 have b12 := hf.l 12 rfl
 have b13 := hf.l 13 rfl
 have b14 := hf.l 14 rfl
 have b15 := hf.l 15 rfl
 have b16 := hf.l 16 rfl
 have b17 := hf.l 17 rfl
 have b18 := hf.l 18 rfl
 have b19 := hf.l 19 rfl
 have b20 := hf.l 20 rfl
 have b21 := hf.l 21 rfl
 have b22 := hf.l 22 rfl
 refine Fact.p rfl fun K hK => ?_
 go_simp
 refine hK.out _ _ ?_; clear hK K
 refine Fact.p rfl fun K hK => ?_
 go_simp
 refine hK.out _ _ ?_; clear hK K
 refine Fact.p rfl fun K hK => ?_
 go_simp
 refine hK.out _ _ ?_; clear hK K
 refine Fact.op_guard (g := 2) (d := 14) (b := true) rfl rfl rfl ?_ (fun K hK => ?_)
 · (
 simp only [Fact.G, Nat.reduceEqDiff, Nat.reduceLT, reduceIte, hf.size])
 go_simp
 refine hK.out _ _ ?_; clear hK K
 refine Fact.op_guard (g := 2) (d := 14) (b := true) rfl rfl rfl ?_ (fun K hK => ?_)
 · (
 simp only [Fact.G, Nat.reduceEqDiff, Nat.reduceLT, reduceIte, hf.size])
 go_simp
 refine hK.out _ _ ?_; clear hK K
 refine Fact.op_guard (g := 2) (d := 14) (b := true) rfl rfl rfl ?_ (fun K hK => ?_)
 · (
 simp only [Fact.G, Nat.reduceEqDiff, Nat.reduceLT, reduceIte, hf.size])
 go_simp
 go_at_call 19; refine (rsame W2 ss ss init init _ _ hr2 hrs2 HL.out HL.out (by omega) (by omega)).mono ?_; rintro e w3 ⟨rfl, hb3⟩
 rw [decide_eq_true (show init = init ∧ ss = ss from ⟨rfl, rfl⟩)]
 replace y0 := cell_later hb3 y0; replace y1 := cell_later hb3 y1; have hr3 := hr2.later hb3
 dsimp only
 refine hK.out _ _ ?_; clear hK K
 refine Fact.p rfl fun K hK => ?_
 go_simp
 refine hK.out _ _ ?_; clear hK K
 refine Fact.p rfl fun K hK => ?_
 go_simp
 refine hK.out _ _ ?_; clear hK K
 refine Fact.op_guard (g := 7) (d := 19) (b := true) rfl rfl rfl ?_ (fun K hK => ?_)
 · (
 simp only [Fact.G, Nat.reduceEqDiff, Nat.reduceLT, reduceIte, hf.size])
 go_simp
 refine hK.out _ _ ?_; clear hK K
 refine Fact.op_guard (g := 7) (d := 19) (b := true) rfl rfl rfl ?_ (fun K hK => ?_)
 · (
 simp only [Fact.G, Nat.reduceEqDiff, Nat.reduceLT, reduceIte, hf.size])
 go_simp
 go_at_call 9; refine (right9 w3 _ init ss hr3 (fun s hs => (HOK.out s hs).ok) (by omega)).mono ?_; rintro e w4 ⟨rfl, hb4⟩
 rw [HR.out]
 have hbz := hb0.trans ((hb12.trans ((hb3.trans (hb4.mono hb3.size)).mono hb12.size)).mono hb0.size)
 dsimp only
 refine hK.out _ _ ?_; clear hK K
 refine Fact.p rfl fun K hK => ?_
 go_simp
 refine hK.out _ _ ?_; clear hK K
 refine Fact.p rfl fun K hK => ?_
 go_simp
 refine hK.out _ _ ?_; clear hK K
 refine Fact.nil ?_
 refine Fact.q hf (by simp only [Fact.G]) rfl fun fr1 hf1 hT => ?_
 have hKp := hT 4
 simp only [Fact.G, Nat.reduceEqDiff, Nat.reduceLT, hf.size, reduceIte] at hKp
 clear hT hf s3 s4 s5 s6 b12 b13 b14 b15 b16 b17 b18 b19 b20 b21 b22
 have s4 := hKp; clear hKp
 have hf := hf1; clear hf1
 refine Fact.nx (hK3 _ _ ?_)
 refine wp_ret ?_
 exact Fact.ret1 rfl hf s4 ⟨rfl, hbz⟩
end Dw
end Go.Proofs.YtgjfhedgdbbinaaDoor
