/- pack: PackBack. -/
import Derived.Test.YtdkbgbdgmihlmaaDoorPFormF
import Derived.Test.YtdkbgbdgmihlmaaDoorPWorks
import Derived.Test.YtdkbgbdgmihlmaaDoorTailA
import Derived.Test.YtdkbgbdgmihlmaaDoorTools
namespace Go.Proofs.YtdkbgbdgmihlmaaDoor
open Go.RowKit
set_option linter.unusedSimpArgs false
set_option linter.unusedVariables false
set_option linter.unnecessarySimpa false
namespace Dw

def PFst (i : Nat) (f : List State) : Stab.Pr := fun v w => ∃ V, v = .agg #[V, .int .u64 i] ∧ RS w V f
theorem PFst.stable (i : Nat) (f : List State) : Stab.Stable (PFst i f) := fun v w w' hb ⟨V, h1, h2⟩ => ⟨V, h1, h2.later hb⟩
theorem RS.off2 {w w' : World} {g : Nat} {sv x y : Value} {t : TypeId} {fr : Nat × Nat} {ss : List State} (h : RS w sv ss) (hg : w.heap[g]? = some (.cells #[x, y] t fr)) (hb : But (fun k => k = g) w w') : RS w' sv ss :=
  h.off (fun cs t fr h => by rw [hg] at h; injection h with h; injection h with h; rw [← h]; simp) hb
theorem fill2 {w W : World} {g : Nat} {x y x' y' : Value} {t : TypeId} (h : w.heap[g]? = some (.cells #[x, y] t (0, 0))) (hW : (w.setCell ⟨g, 0, none⟩ x').setCell ⟨g, 1, none⟩ y' = W) : But (fun k => k = g) w W ∧ W.heap[g]? = some (.cells #[x', y'] t (0, 0)) := by
  subst hW
  exact ⟨(But.setCell (S := fun k => k = g) (p := ⟨g, 0, none⟩) rfl x').trans (But.setCell (S := fun k => k = g) (p := ⟨g, 1, none⟩) rfl y'), set2 h x' y'⟩
theorem back_boxes {w W : World} {a b c d e f g : Value} {t t' t'' : TypeId} (h : ((w.alloc (.cells #[a, b] t)).alloc (.cells #[c, d] t')).alloc (.cells #[e, f, g] t'') = W) : Below w.heap.size w W ∧ W.cell? ⟨w.heap.size, 0, none⟩ = some a ∧ W.cell? ⟨w.heap.size, 1, none⟩ = some b ∧ W.cell? ⟨w.heap.size + 1, 0, none⟩ = some c ∧ W.cell? ⟨w.heap.size + 1, 1, none⟩ = some d ∧
    W.cell? ⟨w.heap.size + 2, 0, none⟩ = some e ∧ W.cell? ⟨w.heap.size + 2, 1, none⟩ = some f ∧ W.cell? ⟨w.heap.size + 2, 2, none⟩ = some g := by
  obtain ⟨W1, h1⟩ : ∃ x, w.alloc (.cells #[a, b] t) = x := ⟨_, rfl⟩
  obtain ⟨W2, h2⟩ : ∃ x, W1.alloc (.cells #[c, d] t') = x := ⟨_, rfl⟩
  rw [h1, h2] at h
  obtain ⟨k1, k2, k3, _, k5⟩ := box2 h1
  obtain ⟨l1, l2, l3, _, l5⟩ := box2 h2
  obtain ⟨m1, m2, m3, m4, _, m6⟩ := box3 h
  rw [l5, k5] at m2 m3 m4
  rw [k5] at l2 l3
  exact ⟨k1.trans ((l1.trans (m1.mono l1.size)).mono k1.size), cL m1 (cL l1 k2), cL m1 (cL l1 k3), cL m1 l2, cL m1 l3, m2, m3, m4⟩
theorem three_cases (a b : Prop) : (a ∧ b) ∨ (a ∧ ¬ b) ∨ ¬ a := by by_cases ha : a <;> by_cases hb : b <;> simp [ha, hb]
theorem str_eq {a b : ByteArray} : (a.toList == b.toList) = decide (a = b) := by
  by_cases h : a = b
  · subst h; simp
  · rw [decide_eq_false h]; exact beq_eq_false_iff_ne.2 (fun e => h (by rw [ByteArray.toList_eq, ByteArray.toList_eq] at e; exact ByteArray.ext (Array.ext' e)))
theorem put_small {n : Nat} {i : Nat} {f : List State} (h1 : ∀ s ∈ f, okS s) (h2 : f.length ≤ 12) (h4 : ∀ s ∈ f, s.arcs.length ≤ 6) (hn : n ≤ 100000) (hm : mayF n f = true) (hi : i < 18446744073709551616) : (bl (putR n i f).1).size ≤ 900000000 := by
  have h := (may_out hm).2.2.2
  have h3 := statesB_len f 0 h1 h (by omega)
  have h5 := (numB_le (n := n) (by unfold M64; omega)).2
  have h6 := (numB_le (n := f.length) (by unfold M64; omega)).2
  have h7 := (numB_le (n := i) hi).2
  rw [bl_size]
  unfold putR
  rw [if_pos hm, Crc.seal_length]
  unfold bodyB
  rw [numsB_two, numsB_one]
  simp only [List.length_append, List.length_cons, List.length_nil, Int.toNat_natCast]
  omega
set_option maxHeartbeats 4000000 in
set_option maxRecDepth 100000 in
theorem back4 (w : World) (sva svb : Value) (ia ib : Nat) (ssa ssb : List State) (hra : RS w sva ssa) (hrb : RS w svb ssb) (oka : ∀ s ∈ ssa, okR s) (okb : ∀ s ∈ ssb, okR s) (hia : ia < 18446744073709551616) (hib : ib < 18446744073709551616) (xa xb : Nat) (hxa : xa < 4294967296) (hxb : xb < 4294967296) (S : ByteArray) (hE : ETy w) : Calls Tryd.prog 4 #[.agg #[sva, .int .u64 ia], .agg #[svb, .int .u64 ib], .agg #[.int .u32 xa, .int .u32 xb, .string S]] w fun e w1 => e = .returned (.bool true) ∧ Below w.heap.size w w1 := by
 refine calls_of_wp Tryd.func4 rfl ?_
 refine Fact.en 132 fun fr hf hT => ?_
 have s0 := hT 0 _ rfl
 have s1 := hT 1 _ rfl
 have s2 := hT 2 _ rfl
 clear hT
 obtain ⟨Aa, ca, rfl, hca⟩ := hra.form
 obtain ⟨Ab, cb, rfl, hcb⟩ := hrb.form
 have hnq : ∀ w' : World, (binOp .neq 45 .nilIface .nilIface).run Tryd.prog w' = .ok (.bool false) w' := fun w' => by kernel_rfl
 have hnf : ∀ (v : Value) (w' : World), (binOp .neq 45 (.iface 82 v) .nilIface).run Tryd.prog w' = .ok (.bool true) w' := fun v w' => by kernel_rfl
 have OKA := Lib.hid oka; have OKB := Lib.hid okb; clear oka okb
 refine Fact.sq fun K1 hK1 => ?_
 refine rg ?_
 refine fp fun K Z => ?_
 go_simp
 apply Z.out; clear Z K
 refine fp fun K Z => ?_
 go_simp
 apply Z.out; clear Z K
 refine fp fun K Z => ?_
 go_simp
 apply Z.out; clear Z K
 refine fp fun K Z => ?_
 go_simp
 apply Z.out; clear Z K
 refine Fact.z hf fun fr1 hf1 hT => ?_
 have hKp : _ ∧ _ ∧ _ := ⟨hT 3, hT 4, hT 5⟩
 simp (decide := true) only [Fact.G, hf.size, reduceIte] at hKp
 replace hf := hf1; clear hT hf1 s0 s1 s2
 obtain ⟨s3, s4, s5⟩ := hKp
 obtain ⟨W0, hW0⟩ : ∃ x, ((w.alloc (.cells #[.slice Aa ssa.length ca, .int .u64 ia] 25)).alloc (.cells #[.slice Ab ssb.length cb, .int .u64 ib] 25)).alloc (.cells #[.int .u32 xa, .int .u32 xb, .string S] 43) = x := ⟨_, rfl⟩
 try simp only [World.size_alloc] at s3 s4 s5
 try rw [hW0]
 obtain ⟨hb0, a0, a1, b0, b1, c0, c1, c2⟩ := back_boxes hW0
 clear hW0
 have hra0 := hra.later hb0; have hrb0 := hrb.later hb0
 clear hra hrb
 replace hE := cL hb0 hE
 refine nx (hK1 _ _ ?_)
 refine Fact.sq fun K2 hK2 => ?_
 refine Fact.sq fun K3 hK3 => ?_
 refine rg ?_
 have b26 := hf.b 26
 refine fp fun K Z => ?_
 go_simp
 go_at_call 13; refine (works13 W0 hE).mono ?_; rintro e u1 ⟨rfl, hb1⟩
 replace a0 := cL hb1 a0; replace a1 := cL hb1 a1; replace b0 := cL hb1 b0; replace b1 := cL hb1 b1; replace c0 := cL hb1 c0; replace c1 := cL hb1 c1; replace c2 := cL hb1 c2; replace hra0 := hra0.later hb1; replace hrb0 := hrb0.later hb1; replace hE := cL hb1 hE
 have hbt := hb0.trans (hb1.mono hb0.size)
 have hlt5 := cell_lt0 c0
 simp only at hlt5
 try dsimp only
 apply Z.out; clear Z K
 refine fp fun K Z => ?_
 go_simp
 apply Z.out; clear Z K
 refine Fact.z hf fun fr1 hf1 hT => ?_
 have hKp : _ ∧ _ ∧ _ ∧ _ := ⟨hT 3, hT 4, hT 5, hT 27⟩
 simp (decide := true) only [Fact.G, hf.size, reduceIte, s3, s4, s5] at hKp
 replace hf := hf1; clear hT hf1 s3 s4 s5 b26
 obtain ⟨s3, s4, s5, s27⟩ := hKp
 refine nx (hK3 _ _ ?_)
 refine Fact.cond_f s27 ?_
 obtain ⟨fa, hfa⟩ : ∃ x, formedF ssa = x := ⟨_, rfl⟩
 obtain ⟨fb, hfb⟩ : ∃ x, formedF ssb = x := ⟨_, rfl⟩
 have hka := formed_ok OKA.out; have hkb := formed_ok OKB.out
 have hma := fun (n : Nat) (h : n ≤ 100000) => mayF_formed OKA.out h; have hmb := fun (n : Nat) (h : n ≤ 100000) => mayF_formed OKB.out h
 rw [hfa] at hka hma; rw [hfb] at hkb hmb
 have HKA := Lib.hid hka; have HKB := Lib.hid hkb; have HMA := Lib.hid hma; have HMB := Lib.hid hmb; have HFA := Lib.hid hfa; have HFB := Lib.hid hfb; clear hka hkb hma hmb hfa hfb
 refine wp_skip ?_
 refine nx (hK2 _ _ ?_)
 refine Fact.sq fun K4 hK4 => ?_
 refine Stab.tb 132 fun hok => ?_
 apply Stab.tq 0 _ hf hok
 · (
 intro fr1 w1 hh hd hk K Z
 have s3 := Stab.O hh s3
 clear hd
 replace a0 := cL hh.ext a0
 replace a1 := cL hh.ext a1
 replace b0 := cL hh.ext b0
 replace b1 := cL hh.ext b1
 replace hra0 := hra0.later hh.ext
 replace hrb0 := hrb0.later hh.ext
 replace c0 := cL hh.ext c0
 replace c1 := cL hh.ext c1
 replace c2 := cL hh.ext c2
 replace hE := cL hh.ext hE
 go_simp
 exact Stab.k Z)
 refine Stab.todo_op (k := 1) (n := 132) (PFst ia fa) hf.size hok.out rfl (PFst.stable _ _) ?_ ?_
 · (
 intro fr1 w1 hh hd hk K Z
 refine Stab.pl ?_
 have s28 := Stab.v 0 0 hd hk []
 clear hd
 replace a0 := cL hh.ext a0
 replace a1 := cL hh.ext a1
 replace b0 := cL hh.ext b0
 replace b1 := cL hh.ext b1
 replace hra0 := hra0.later hh.ext
 replace hrb0 := hrb0.later hh.ext
 replace c0 := cL hh.ext c0
 replace c1 := cL hh.ext c1
 replace c2 := cL hh.ext c2
 replace hE := cL hh.ext hE
 go_simp
 go_at_call 9; refine (formed9 w1 _ ia ssa hra0).mono ?_; rintro e w2 ⟨sv1, rfl, hr, hb⟩
 exact Z.out _ rfl _ _ hb ⟨_, rfl, by rw [← HFA.out]; exact hr⟩)
 apply Stab.tq 2 _ hf hok
 · (
 intro fr1 w1 hh hd hk K Z
 have s4 := Stab.O hh s4
 clear hd
 replace a0 := cL hh.ext a0
 replace a1 := cL hh.ext a1
 replace b0 := cL hh.ext b0
 replace b1 := cL hh.ext b1
 replace hra0 := hra0.later hh.ext
 replace hrb0 := hrb0.later hh.ext
 replace c0 := cL hh.ext c0
 replace c1 := cL hh.ext c1
 replace c2 := cL hh.ext c2
 replace hE := cL hh.ext hE
 go_simp
 exact Stab.k Z)
 refine Stab.todo_op (k := 3) (n := 132) (PFst ib fb) hf.size hok.out rfl (PFst.stable _ _) ?_ ?_
 · (
 intro fr1 w1 hh hd hk K Z
 refine Stab.pl ?_
 have s30 := Stab.v 2 0 hd hk []
 clear hd
 replace a0 := cL hh.ext a0
 replace a1 := cL hh.ext a1
 replace b0 := cL hh.ext b0
 replace b1 := cL hh.ext b1
 replace hra0 := hra0.later hh.ext
 replace hrb0 := hrb0.later hh.ext
 replace c0 := cL hh.ext c0
 replace c1 := cL hh.ext c1
 replace c2 := cL hh.ext c2
 replace hE := cL hh.ext hE
 go_simp
 go_at_call 9; refine (formed9 w1 _ ib ssb hrb0).mono ?_; rintro e w2 ⟨sv1, rfl, hr, hb⟩
 exact Z.out _ rfl _ _ hb ⟨_, rfl, by rw [← HFB.out]; exact hr⟩)
 refine Stab.todo_op (k := 4) (n := 132) (TailA.PZ #[.slice none 0 0, .int .u64 0] 25) hf.size hok.out rfl (TailA.PZ.stable _ _) ?_ ?_
 · (
 intro fr1 w1 hh hd hk K Z
 refine Stab.pl ?_
 clear hd
 go_simp
 exact Z.out _ rfl _ _ ((Below.refl _ _).alloc (Nat.le_refl _) _) (TailA.PZ.mk _ _ _))
 refine Stab.todo_op (k := 5) (n := 132) (TailA.PZ #[.slice none 0 0, .int .u64 0] 25) hf.size hok.out rfl (TailA.PZ.stable _ _) ?_ ?_
 · (
 intro fr1 w1 hh hd hk K Z
 refine Stab.pl ?_
 clear hd
 go_simp
 exact Z.out _ rfl _ _ ((Below.refl _ _).alloc (Nat.le_refl _) _) (TailA.PZ.mk _ _ _))
 refine TailA.todo_tailA (n := 132) (m := 6) (ws := [(6, 2, [3])]) [(4, 7, .cells #[.slice none 0 0, .int .u64 0] 25), (5, 8, .cells #[.slice none 0 0, .int .u64 0] 25)] ?_ (by kernel_rfl) hf.size hok.out rfl rfl (by kernel_rfl) (fun fr1 w1 hh hg hpt => ?_)
 · (
 intro x hx
 simp only [List.mem_cons, List.not_mem_nil, or_false] at hx
 rcases hx with rfl | rfl <;> exact TailA.fresh_alloc rfl rfl rfl rfl (fun e w => by kernel_rfl) (fun w => TailA.PZ.mk _ _ w))
 replace s5 := Stab.O hh s5
 obtain ⟨x7, s7, hp7⟩ := Tail.got_use (j := 4) (m := 1) hg rfl rfl rfl rfl rfl
 obtain ⟨g7, hv7, hq7⟩ := hp7
 subst hv7
 obtain ⟨x8, s8, hp8⟩ := Tail.got_use (j := 5) (m := 0) hg rfl rfl rfl rfl rfl
 obtain ⟨g8, hv8, hq8⟩ := hp8
 subst hv8
 obtain ⟨x29, s29, hp29⟩ := Tail.got_use (j := 1) (m := 4) hg rfl rfl rfl rfl rfl
 obtain ⟨V29, hv29, hr29⟩ := hp29
 subst hv29
 obtain ⟨x31, s31, hp31⟩ := Tail.got_use (j := 3) (m := 2) hg rfl rfl rfl rfl rfl
 obtain ⟨V31, hv31, hr31⟩ := hp31
 subst hv31
 have lo7 := TailA.low hpt (4, 7, .cells #[.slice none 0 0, .int .u64 0] 25) (by simp) rfl s7
 have lo8 := TailA.low hpt (5, 8, .cells #[.slice none 0 0, .int .u64 0] 25) (by simp) rfl s8
 have ne7_8 := TailA.apart2 hpt (4, 7, .cells #[.slice none 0 0, .int .u64 0] 25) (5, 8, .cells #[.slice none 0 0, .int .u64 0] 25) (by simp) (by simp) rfl rfl rfl s7 s8
 clear hpt
 have hf1 := hh.fr hf
 have hx := hh.ext
 replace a0 := cL hx a0
 replace a1 := cL hx a1
 replace b0 := cL hx b0
 replace b1 := cL hx b1
 replace hra0 := hra0.later hx
 replace hrb0 := hrb0.later hx
 replace c0 := cL hx c0
 replace c1 := cL hx c1
 replace c2 := cL hx c2
 replace hE := cL hx hE
 clear hg hh hf hok s3 s4 s27
 have hf := hf1; clear hf1
 obtain ⟨A29, c29, hv29, hc29⟩ := hr29.form
 subst hv29
 have i0 := cell_of_row _ _ 0 _ 25 (0, 0) hq7; have i1 := cell_of_row _ _ 1 _ 25 (0, 0) hq7; have fi0 := frozen_of (i := 0) hq7; have fi1 := frozen_of (i := 1) hq7
 simp at i0 i1
 refine Tail.seq_op rfl rfl (fun K Z => ?_)
 go_simp
 apply Z.out; clear Z K
 obtain ⟨A31, c31, hv31, hc31⟩ := hr31.form
 subst hv31
 obtain ⟨W7, hW7⟩ : ∃ x, ((w1.setCell ⟨g7, 0, none⟩ (.slice A29 fa.length c29)).setCell ⟨g7, 1, none⟩ (.int .u64 ia)) = x := ⟨_, rfl⟩
 obtain ⟨hb7, hp7⟩ := fill2 hq7 hW7
 try rw [hW7]
 clear hW7
 have hq8 := hb7.heap hq8 (fun h => ne7_8 h.symm)
 have j0 := cell_of_row _ _ 0 _ 25 (0, 0) hq8; have j1 := cell_of_row _ _ 1 _ 25 (0, 0) hq8; have fj0 := frozen_of (i := 0) hq8; have fj1 := frozen_of (i := 1) hq8
 simp at j0 j1
 have hrA := hr29.off2 hq7 hb7; have hrB := hr31.off2 hq7 hb7
 refine Tail.seq_op rfl rfl (fun K Z => ?_)
 go_simp
 apply Z.out; clear Z K
 refine Tail.seq_nil rfl ?_
 refine Fact.q hf (by simp only [Fact.G]) rfl fun fr1 hf1 hT => ?_
 have hKp : _ ∧ _ ∧ _ := ⟨hT 5, hT 7, hT 8⟩
 simp (decide := true) only [Fact.G, reduceIte, s5, s7, s8] at hKp
 replace hf := hf1; clear hT hf1 s5 s7 s8 s29 s31
 obtain ⟨s5, s7, s8⟩ := hKp
 obtain ⟨W8, hW8⟩ : ∃ x, ((W7.setCell ⟨g8, 0, none⟩ (.slice A31 fb.length c31)).setCell ⟨g8, 1, none⟩ (.int .u64 ib)) = x := ⟨_, rfl⟩
 obtain ⟨hb8, hp8⟩ := fill2 hq8 hW8
 try rw [hW8]
 clear hW8
 have hp7b := hb8.heap hp7 ne7_8
 replace hrA := hrA.off2 hq8 hb8; replace hrB := hrB.off2 hq8 hb8
 have hbx := (hb7.below (hx.size) (fun k h => by have h : k = g7 := h; omega)).trans (hb8.below (B := _) (Nat.le_trans hx.size hb7.size) (fun k h => by have h : k = g8 := h; omega))
 have hb38 := hx.trans hbx
 skip
 have f0 := cell_of_row _ _ 0 _ 25 (0, 0) hp7b; have f1 := cell_of_row _ _ 1 _ 25 (0, 0) hp7b; have e0 := cell_of_row _ _ 0 _ 25 (0, 0) hp8; have e1 := cell_of_row _ _ 1 _ 25 (0, 0) hp8
 simp at f0 f1 e0 e1
 have h5a : w.heap.size + 2 ≠ g7 := by omega
 have h5b : w.heap.size + 2 ≠ g8 := by omega
 replace c0 := hb8.cell (hb7.cell c0 h5a) h5b
 replace c1 := hb8.cell (hb7.cell c1 h5a) h5b
 replace c2 := hb8.cell (hb7.cell c2 h5a) h5b
 have h00a : (0 : Nat) ≠ g7 := by omega
 have h00b : (0 : Nat) ≠ g8 := by omega
 replace hE := hb8.cell (hb7.cell hE h00a) h00b
 replace hbt := hbt.trans (hb38.mono hbt.size)
 clear i0 i1 fi0 fi1 j0 j1 fj0 fj1 hr29 hr31 hq7 hq8 hp7 hbx hb7 hb8 h5a h5b h00a h00b hb38 hp7b hp8 lo7 lo8 hlt5 hx a0 a1 b0 b1 hra0 hrb0
 refine nx (hK4 _ _ ?_)
 obtain ⟨na, hna⟩ : ∃ n, xa % 100001 = n := ⟨_, rfl⟩
 obtain ⟨nb, hnb⟩ : ∃ n, xb % 100001 = n := ⟨_, rfl⟩
 have hna2 : na ≤ 100000 := by omega
 have hnb2 : nb ≤ 100000 := by omega
 have HNA := Lib.hid hna; have HNB := Lib.hid hnb; clear hna hnb
 refine Fact.sq fun K5 hK5 => ?_
 refine Stab.tb 132 fun hok => ?_
 apply Stab.tq 0 _ hf hok
 · (
 intro fr1 w1 hh hd hk K Z
 have s5 := Stab.O hh s5
 clear hd
 go_simp
 exact Stab.k Z)
 apply Stab.tq 1 _ hf hok
 · (
 intro fr1 w1 hh hd hk K Z
 have s32 := Stab.v 0 0 hd hk []
 clear hd
 replace f0 := cL hh.ext f0
 replace f1 := cL hh.ext f1
 replace e0 := cL hh.ext e0
 replace e1 := cL hh.ext e1
 replace hrA := hrA.later hh.ext
 replace hrB := hrB.later hh.ext
 replace c0 := cL hh.ext c0
 replace c1 := cL hh.ext c1
 replace c2 := cL hh.ext c2
 replace hE := cL hh.ext hE
 replace hbt := hbt.trans (hh.ext.mono hbt.size)
 go_simp
 exact Stab.k Z)
 apply Stab.tq 2 _ hf hok
 · (
 intro fr1 w1 hh hd hk K Z
 have s33 := Stab.v 1 0 hd hk []
 clear hd
 go_simp
 rw [Fact.wrap_i64 (by omega) (by omega)]
 exact Stab.k Z)
 apply Stab.tq 3 _ hf hok
 · (
 intro fr1 w1 hh hd hk K Z
 have s34 := Stab.v 2 0 hd hk []
 clear hd
 go_simp
 rw [show ((xa : Nat) : Int).tmod 100001 = ((na : Nat) : Int) by rw [Int.tmod_eq_emod_of_nonneg (by omega)]; have := HNA.out; omega]
 exact Stab.k Z)
 apply Stab.tq 4 _ hf hok
 · (
 intro fr1 w1 hh hd hk K Z
 have s5 := Stab.O hh s5
 clear hd
 go_simp
 exact Stab.k Z)
 apply Stab.tq 5 _ hf hok
 · (
 intro fr1 w1 hh hd hk K Z
 have s36 := Stab.v 4 0 hd hk []
 clear hd
 replace f0 := cL hh.ext f0
 replace f1 := cL hh.ext f1
 replace e0 := cL hh.ext e0
 replace e1 := cL hh.ext e1
 replace hrA := hrA.later hh.ext
 replace hrB := hrB.later hh.ext
 replace c0 := cL hh.ext c0
 replace c1 := cL hh.ext c1
 replace c2 := cL hh.ext c2
 replace hE := cL hh.ext hE
 replace hbt := hbt.trans (hh.ext.mono hbt.size)
 go_simp
 exact Stab.k Z)
 apply Stab.tq 6 _ hf hok
 · (
 intro fr1 w1 hh hd hk K Z
 have s37 := Stab.v 5 0 hd hk []
 clear hd
 go_simp
 rw [Fact.wrap_i64 (by omega) (by omega)]
 exact Stab.k Z)
 apply Stab.tq 7 _ hf hok
 · (
 intro fr1 w1 hh hd hk K Z
 have s38 := Stab.v 6 0 hd hk []
 clear hd
 go_simp
 rw [show ((xb : Nat) : Int).tmod 100001 = ((nb : Nat) : Int) by rw [Int.tmod_eq_emod_of_nonneg (by omega)]; have := HNB.out; omega]
 exact Stab.k Z)
 refine Stab.mN 8 3 4 hf hok [] ?_
 refine Stab.mN 9 7 1 hf hok [] ?_
 refine Stab.tf hf hok fun fr1 w1 hh hg => ?_
 replace s5 := Stab.O hh s5
 replace s7 := Stab.O hh s7
 replace s8 := Stab.O hh s8
 have s9 := Stab.f 8 1 hg
 have s10 := Stab.f 9 0 hg
 have hf1 := hh.fr hf
 have hx := hh.ext
 replace f0 := cL hx f0
 replace f1 := cL hx f1
 replace e0 := cL hx e0
 replace e1 := cL hx e1
 replace hrA := hrA.later hx
 replace hrB := hrB.later hx
 replace c0 := cL hx c0
 replace c1 := cL hx c1
 replace c2 := cL hx c2
 replace hE := cL hx hE
 replace hbt := hbt.trans (hx.mono hbt.size)
 clear hg hh hf hok
 have hf := hf1; clear hf1
 refine nx (hK5 _ _ ?_)
 have f0c := f0
 obtain ⟨u4, hu4⟩ : ∃ x, w1 = x := ⟨_, rfl⟩
 subst hu4
 refine Fact.sq fun K6 hK6 => ?_
 refine rg ?_
 have b41 := hf.b 41
 have b42 := hf.b 42
 have b43 := hf.b 43
 have b40 := hf.b 40
 have b44 := hf.b 44
 have b45 := hf.b 45
 refine fp fun K Z => ?_
 go_simp
 apply Z.out; clear Z K
 refine fp fun K Z => ?_
 go_simp
 apply Z.out; clear Z K
 refine fp fun K Z => ?_
 go_simp
 go_at_call 14; refine (put14 w1 na _ ia fa hrA HKA.out.1 (by have := HKA.out.2.1; omega) (fun s hs => by have := HKA.out.2.2.2.1 s hs; omega) hia).mono ?_; rintro e u5 ⟨rfl, hb5⟩
 obtain ⟨SA, hSA⟩ : ∃ x, bl (putR na ia fa).1 = x := ⟨_, rfl⟩
 dsimp only
 rw [put_code (HMA.out na hna2), hSA]
 have HSA := Lib.hid hSA; clear hSA
 replace f0 := cL hb5 f0
 replace f1 := cL hb5 f1
 replace e0 := cL hb5 e0
 replace e1 := cL hb5 e1
 replace hrA := hrA.later hb5
 replace hrB := hrB.later hb5
 replace c0 := cL hb5 c0
 replace c1 := cL hb5 c1
 replace c2 := cL hb5 c2
 replace hE := cL hb5 hE
 replace hbt := hbt.trans (hb5.mono hbt.size)
 try dsimp only
 apply Z.out; clear Z K
 refine fp fun K Z => ?_
 go_simp
 apply Z.out; clear Z K
 refine fp fun K Z => ?_
 go_simp
 apply Z.out; clear Z K
 refine fp fun K Z => ?_
 go_simp
 apply Z.out; clear Z K
 refine fp fun K Z => ?_
 go_simp
 apply Z.out; clear Z K
 refine fp fun K Z => ?_
 go_simp
 apply Z.out; clear Z K
 refine Fact.z hf fun fr1 hf1 hT => ?_
 have hKp : _ ∧ _ ∧ _ ∧ _ ∧ _ ∧ _ ∧ _ := ⟨hT 5, hT 7, hT 8, hT 9, hT 10, hT 11, hT 12⟩
 simp (decide := true) only [Fact.G, hf.size, reduceIte, s5, s7, s8, s9, s10] at hKp
 replace hf := hf1; clear hT hf1 s5 s7 s8 s9 s10 b41 b42 b43 b40 b44 b45
 obtain ⟨s5, s7, s8, s9, s10, s11, s12⟩ := hKp
 refine nx (hK6 _ _ ?_)
 refine Fact.sq fun K7 hK7 => ?_
 refine rg ?_
 have b47 := hf.b 47
 have b48 := hf.b 48
 have b49 := hf.b 49
 have b46 := hf.b 46
 have b50 := hf.b 50
 have b51 := hf.b 51
 refine fp fun K Z => ?_
 go_simp
 apply Z.out; clear Z K
 refine fp fun K Z => ?_
 go_simp
 apply Z.out; clear Z K
 refine fp fun K Z => ?_
 go_simp
 go_at_call 14; refine (put14 u5 nb _ ib fb hrB HKB.out.1 (by have := HKB.out.2.1; omega) (fun s hs => by have := HKB.out.2.2.2.1 s hs; omega) hib).mono ?_; rintro e u6 ⟨rfl, hb6⟩
 obtain ⟨SB, hSB⟩ : ∃ x, bl (putR nb ib fb).1 = x := ⟨_, rfl⟩
 dsimp only
 rw [put_code (HMB.out nb hnb2), hSB]
 have HSB := Lib.hid hSB; clear hSB
 replace f0 := cL hb6 f0
 replace f1 := cL hb6 f1
 replace e0 := cL hb6 e0
 replace e1 := cL hb6 e1
 replace hrA := hrA.later hb6
 replace hrB := hrB.later hb6
 replace c0 := cL hb6 c0
 replace c1 := cL hb6 c1
 replace c2 := cL hb6 c2
 replace hE := cL hb6 hE
 replace hbt := hbt.trans (hb6.mono hbt.size)
 try dsimp only
 apply Z.out; clear Z K
 refine fp fun K Z => ?_
 go_simp
 apply Z.out; clear Z K
 refine fp fun K Z => ?_
 go_simp
 apply Z.out; clear Z K
 refine fp fun K Z => ?_
 go_simp
 apply Z.out; clear Z K
 refine fp fun K Z => ?_
 go_simp
 apply Z.out; clear Z K
 refine fp fun K Z => ?_
 go_simp
 apply Z.out; clear Z K
 refine Fact.z hf fun fr1 hf1 hT => ?_
 have hKp : _ ∧ _ ∧ _ ∧ _ ∧ _ ∧ _ ∧ _ ∧ _ ∧ _ := ⟨hT 5, hT 7, hT 8, hT 9, hT 10, hT 11, hT 12, hT 13, hT 14⟩
 simp (decide := true) only [Fact.G, hf.size, reduceIte, s5, s7, s8, s9, s10, s11, s12] at hKp
 replace hf := hf1; clear hT hf1 s5 s7 s8 s9 s10 s11 s12 b47 b48 b49 b46 b50 b51
 obtain ⟨s5, s7, s8, s9, s10, s11, s12, s13, s14⟩ := hKp
 refine nx (hK7 _ _ ?_)
 have hpa : pGet SA = .ok (na, ia, fa) := by rw [← HSA.out]; exact pGet_put (HMA.out na hna2) HKA.out.1 (by have := HKA.out.2.1; omega) hia
 have hsza : SA.size ≤ 900000000 := by rw [← HSA.out]; exact put_small HKA.out.1 HKA.out.2.1 HKA.out.2.2.2.1 hna2 (HMA.out na hna2) hia
 refine Fact.sq fun K8 hK8 => ?_
 refine rg ?_
 have b53 := hf.b 53
 have b54 := hf.b 54
 have b52 := hf.b 52
 have b55 := hf.b 55
 have b56 := hf.b 56
 have b57 := hf.b 57
 have b16 := hf.b 16
 refine fp fun K Z => ?_
 go_simp
 apply Z.out; clear Z K
 refine fp fun K Z => ?_
 go_simp
 go_at_call 15; refine (get15 u6 SA hsza).mono ?_; rintro e u7 hget
 rw [hpa] at hget
 obtain ⟨svk, rfl, hrk, hb7⟩ := hget
 obtain ⟨Ak, ck, rfl, hck⟩ := hrk.form
 try dsimp only
 replace f0 := cL hb7 f0
 replace f1 := cL hb7 f1
 replace e0 := cL hb7 e0
 replace e1 := cL hb7 e1
 replace hrA := hrA.later hb7
 replace hrB := hrB.later hb7
 replace c0 := cL hb7 c0
 replace c1 := cL hb7 c1
 replace c2 := cL hb7 c2
 replace hE := cL hb7 hE
 replace hbt := hbt.trans (hb7.mono hbt.size)
 try dsimp only
 apply Z.out; clear Z K
 refine fp fun K Z => ?_
 go_simp
 apply Z.out; clear Z K
 refine fp fun K Z => ?_
 go_simp
 apply Z.out; clear Z K
 refine fp fun K Z => ?_
 go_simp
 apply Z.out; clear Z K
 refine fp fun K Z => ?_
 go_simp
 apply Z.out; clear Z K
 refine fp fun K Z => ?_
 go_simp
 apply Z.out; clear Z K
 refine fp fun K Z => ?_
 go_simp
 apply Z.out; clear Z K
 refine fp fun K Z => ?_
 go_simp
 apply Z.out; clear Z K
 refine fp fun K Z => ?_
 go_simp
 apply Z.out; clear Z K
 refine Fact.z hf fun fr1 hf1 hT => ?_
 have hKp : _ ∧ _ ∧ _ ∧ _ ∧ _ ∧ _ ∧ _ ∧ _ ∧ _ ∧ _ ∧ _ ∧ _ := ⟨hT 5, hT 7, hT 8, hT 9, hT 10, hT 11, hT 12, hT 13, hT 14, hT 15, hT 16, hT 17⟩
 simp (decide := true) only [Fact.G, hf.size, reduceIte, s5, s7, s8, s9, s10, s11, s12, s13, s14] at hKp
 replace hf := hf1; clear hT hf1 s5 s7 s8 s9 s10 s11 s12 s13 s14 b53 b54 b52 b55 b56 b57 b16
 obtain ⟨s5, s7, s8, s9, s10, s11, s12, s13, s14, s15, s16, s17⟩ := hKp
 obtain ⟨U7, hU7⟩ : ∃ x, u7.alloc (.cells #[.slice Ak fa.length ck, .int .u64 ia] 25) = x := ⟨_, rfl⟩
 try rw [hU7]
 obtain ⟨hbU, k0, k1, -, -⟩ := box2 hU7
 clear hU7
 replace hrk := hrk.later hbU
 replace f0 := cL hbU f0
 replace f1 := cL hbU f1
 replace e0 := cL hbU e0
 replace e1 := cL hbU e1
 replace hrA := hrA.later hbU
 replace hrB := hrB.later hbU
 replace c0 := cL hbU c0
 replace c1 := cL hbU c1
 replace c2 := cL hbU c2
 replace hE := cL hbU hE
 replace hbt := hbt.trans (hbU.mono hbt.size)
 refine nx (hK8 _ _ ?_)
 have hlk := HKA.out.2.1
 have hlk2 := HKB.out.2.1
 have hone := put_one (HMA.out na hna2) (HMB.out nb hnb2) HKA.out.1 HKB.out.1 (by omega) (by omega) hia hib
 rw [HSA.out, HSB.out] at hone
 have HONE := Lib.hid hone; clear hone
 refine Fact.seq_meet (fun fr wq => Fact.Fr 132 fr ∧ fr.tmps[5]? = some (.pointer (some ⟨w.heap.size + 1 + 1, 0, none⟩)) ∧ wq.cell? ⟨w.heap.size + 2, 2, none⟩ = some (.string S) ∧ ETy wq ∧ Below w.heap.size w wq) ?_ ?_
 · (
 rcases three_cases (na = nb) (ia = ib ∧ fa = fb) with hn | hn | hn
 · (
 have HN := Lib.hid hn; clear hn
 have q24 : (SA.toList == SB.toList) = true := str_eq.trans (decide_eq_true (HONE.out.2 ⟨by rw [HN.out.1], HN.out.2⟩))
 have q27 : ((na : Int) == (nb : Int)) = true := by rw [HN.out.1]; simp
 refine Fact.sq fun K9 hK9 => ?_
 refine rg ?_
 have b58 := hf.b 58
 have b59 := hf.b 59
 have b60 := hf.b 60
 have b61 := hf.b 61
 have b62 := hf.b 62
 have b63 := hf.b 63
 have b64 := hf.b 64
 have b65 := hf.b 65
 have b66 := hf.b 66
 have b67 := hf.b 67
 have b68 := hf.b 68
 have b69 := hf.b 69
 have b70 := hf.b 70
 have b71 := hf.b 71
 have b72 := hf.b 72
 have b73 := hf.b 73
 have b74 := hf.b 74
 have b75 := hf.b 75
 have b76 := hf.b 76
 have b77 := hf.b 77
 have b78 := hf.b 78
 have b79 := hf.b 79
 have b80 := hf.b 80
 have b81 := hf.b 81
 have b82 := hf.b 82
 have b83 := hf.b 83
 have b84 := hf.b 84
 have b85 := hf.b 85
 have b86 := hf.b 86
 have b87 := hf.b 87
 have b88 := hf.b 88
 have b89 := hf.b 89
 have b90 := hf.b 90
 have b91 := hf.b 91
 refine fp fun K Z => ?_
 go_simp
 apply Z.out; clear Z K
 refine fp fun K Z => ?_
 go_simp
 apply Z.out; clear Z K
 refine fp fun K Z => ?_
 go_simp
 apply Z.out; clear Z K
 refine og 2 60 false ?_ fun K Z => ?_
 · (
 simp (decide := true) only [Fact.G, reduceIte, hf.size])
 go_simp
 apply Z.out; clear Z K
 refine og 2 60 false ?_ fun K Z => ?_
 · (
 simp (decide := true) only [Fact.G, reduceIte, hf.size])
 go_simp
 apply Z.out; clear Z K
 refine fp fun K Z => ?_
 go_simp
 apply Z.out; clear Z K
 refine fp fun K Z => ?_
 go_simp
 apply Z.out; clear Z K
 refine og 6 64 false ?_ fun K Z => ?_
 · (
 simp (decide := true) only [Fact.G, reduceIte, hf.size])
 go_simp
 apply Z.out; clear Z K
 refine og 6 64 false ?_ fun K Z => ?_
 · (
 simp (decide := true) only [Fact.G, reduceIte, hf.size])
 go_simp
 apply Z.out; clear Z K
 refine fp fun K Z => ?_
 go_simp
 apply Z.out; clear Z K
 refine fp fun K Z => ?_
 go_simp
 apply Z.out; clear Z K
 refine og 10 68 false ?_ fun K Z => ?_
 · (
 simp (decide := true) only [Fact.G, reduceIte, hf.size])
 go_simp
 apply Z.out; clear Z K
 refine og 10 68 false ?_ fun K Z => ?_
 · (
 simp (decide := true) only [Fact.G, reduceIte, hf.size])
 go_simp
 apply Z.out; clear Z K
 refine og 10 68 false ?_ fun K Z => ?_
 · (
 simp (decide := true) only [Fact.G, reduceIte, hf.size])
 go_simp
 apply Z.out; clear Z K
 refine fp fun K Z => ?_
 go_simp
 apply Z.out; clear Z K
 refine fp fun K Z => ?_
 go_simp
 apply Z.out; clear Z K
 refine og 15 73 false ?_ fun K Z => ?_
 · (
 simp (decide := true) only [Fact.G, reduceIte, hf.size])
 go_simp
 apply Z.out; clear Z K
 refine og 15 73 false ?_ fun K Z => ?_
 · (
 simp (decide := true) only [Fact.G, reduceIte, hf.size])
 go_simp
 apply Z.out; clear Z K
 refine og 15 73 false ?_ fun K Z => ?_
 · (
 simp (decide := true) only [Fact.G, reduceIte, hf.size])
 go_simp
 go_at_call 16; refine (rsame U7 fa fa ia ia _ _ hrk hrA (fun s hs => by have := HKA.out.2.2.2.1 s hs; omega) (fun s hs => by have := HKA.out.2.2.2.1 s hs; omega) (by omega) (by omega)).mono ?_; rintro e u8 ⟨rfl, hb8⟩
 rw [decide_eq_true (show ia = ia ∧ fa = fa from ⟨rfl, rfl⟩)]
 replace k0 := cL hb8 k0; replace k1 := cL hb8 k1
 replace f0 := cL hb8 f0
 replace f1 := cL hb8 f1
 replace e0 := cL hb8 e0
 replace e1 := cL hb8 e1
 replace hrA := hrA.later hb8
 replace hrB := hrB.later hb8
 replace c0 := cL hb8 c0
 replace c1 := cL hb8 c1
 replace c2 := cL hb8 c2
 replace hE := cL hb8 hE
 replace hbt := hbt.trans (hb8.mono hbt.size)
 try dsimp only
 apply Z.out; clear Z K
 refine og 15 73 false ?_ fun K Z => ?_
 · (
 simp (decide := true) only [Fact.G, reduceIte, hf.size])
 go_simp
 apply Z.out; clear Z K
 refine fp fun K Z => ?_
 go_simp
 apply Z.out; clear Z K
 refine fp fun K Z => ?_
 go_simp
 apply Z.out; clear Z K
 refine og 21 79 false ?_ fun K Z => ?_
 · (
 simp (decide := true) only [Fact.G, reduceIte, hf.size])
 go_simp
 apply Z.out; clear Z K
 refine og 21 79 false ?_ fun K Z => ?_
 · (
 simp (decide := true) only [Fact.G, reduceIte, hf.size])
 go_simp
 apply Z.out; clear Z K
 refine og 21 79 false ?_ fun K Z => ?_
 · (
 simp (decide := true) only [Fact.G, reduceIte, hf.size])
 go_simp
 try rw [q24]
 apply Z.out; clear Z K
 refine og 21 79 false ?_ fun K Z => ?_
 · (
 simp (decide := true) only [Fact.G, reduceIte, hf.size])
 go_simp
 apply Z.out; clear Z K
 refine og 21 79 false ?_ fun K Z => ?_
 · (
 simp (decide := true) only [Fact.G, reduceIte, hf.size])
 go_simp
 apply Z.out; clear Z K
 refine og 21 79 false ?_ fun K Z => ?_
 · (
 simp (decide := true) only [Fact.G, reduceIte, hf.size])
 go_simp
 try rw [q27]
 apply Z.out; clear Z K
 refine og 21 79 false ?_ fun K Z => ?_
 · (
 simp (decide := true) only [Fact.G, reduceIte, hf.size])
 go_simp
 apply Z.out; clear Z K
 refine og 28 86 true ?_ fun K Z => ?_
 · (
 simp (decide := true) only [Fact.G, reduceIte, hf.size])
 go_simp
 apply Z.out; clear Z K
 refine og 28 86 true ?_ fun K Z => ?_
 · (
 simp (decide := true) only [Fact.G, reduceIte, hf.size])
 go_simp
 apply Z.out; clear Z K
 refine og 28 86 true ?_ fun K Z => ?_
 · (
 simp (decide := true) only [Fact.G, reduceIte, hf.size])
 go_simp
 go_at_call 16; refine (rsame u8 fa fb ia ib _ _ hrA hrB (fun s hs => by have := HKA.out.2.2.2.1 s hs; omega) (fun s hs => by have := HKB.out.2.2.2.1 s hs; omega) (by omega) (by omega)).mono ?_; rintro e u9 ⟨rfl, hb9⟩
 rw [decide_eq_true HN.out.2]
 replace f0 := cL hb9 f0
 replace f1 := cL hb9 f1
 replace e0 := cL hb9 e0
 replace e1 := cL hb9 e1
 replace hrA := hrA.later hb9
 replace hrB := hrB.later hb9
 replace c0 := cL hb9 c0
 replace c1 := cL hb9 c1
 replace c2 := cL hb9 c2
 replace hE := cL hb9 hE
 replace hbt := hbt.trans (hb9.mono hbt.size)
 try dsimp only
 apply Z.out; clear Z K
 refine og 21 79 false ?_ fun K Z => ?_
 · (
 simp (decide := true) only [Fact.G, reduceIte, hf.size])
 go_simp
 apply Z.out; clear Z K
 refine og 21 79 false ?_ fun K Z => ?_
 · (
 simp (decide := true) only [Fact.G, reduceIte, hf.size])
 go_simp
 apply Z.out; clear Z K
 refine fp fun K Z => ?_
 go_simp
 apply Z.out; clear Z K
 refine Fact.z hf fun fr1 hf1 hT => ?_
 have hKp : _ ∧ _ := ⟨hT 5, hT 92⟩
 simp (decide := true) only [Fact.G, hf.size, reduceIte, s5] at hKp
 replace hf := hf1; clear hT hf1 s5 s7 s8 s9 s10 s11 s12 s13 s14 s15 s16 s17 b58 b59 b60 b61 b62 b63 b64 b65 b66 b67 b68 b69 b70 b71 b72 b73 b74 b75 b76 b77 b78 b79 b80 b81 b82 b83 b84 b85 b86 b87 b88 b89 b90 b91
 obtain ⟨s5, s92⟩ := hKp
 refine nx (hK9 _ _ ?_)
 refine Fact.cond_f s92 ?_
 refine wp_skip ?_
 refine Fact.then_normal ?_
 exact ⟨hf, s5, c2, hE, hbt⟩)
 · (
 have HN := Lib.hid hn; clear hn
 have q24 : (SA.toList == SB.toList) = false := str_eq.trans (decide_eq_false (fun h => HN.out.2 (HONE.out.1 h).2))
 have q27 : ((na : Int) == (nb : Int)) = true := by rw [HN.out.1]; simp
 refine Fact.sq fun K10 hK10 => ?_
 refine rg ?_
 have b58 := hf.b 58
 have b59 := hf.b 59
 have b60 := hf.b 60
 have b61 := hf.b 61
 have b62 := hf.b 62
 have b63 := hf.b 63
 have b64 := hf.b 64
 have b65 := hf.b 65
 have b66 := hf.b 66
 have b67 := hf.b 67
 have b68 := hf.b 68
 have b69 := hf.b 69
 have b70 := hf.b 70
 have b71 := hf.b 71
 have b72 := hf.b 72
 have b73 := hf.b 73
 have b74 := hf.b 74
 have b75 := hf.b 75
 have b76 := hf.b 76
 have b77 := hf.b 77
 have b78 := hf.b 78
 have b79 := hf.b 79
 have b80 := hf.b 80
 have b81 := hf.b 81
 have b82 := hf.b 82
 have b83 := hf.b 83
 have b84 := hf.b 84
 have b85 := hf.b 85
 have b86 := hf.b 86
 have b87 := hf.b 87
 have b88 := hf.b 88
 have b89 := hf.b 89
 have b90 := hf.b 90
 have b91 := hf.b 91
 refine fp fun K Z => ?_
 go_simp
 apply Z.out; clear Z K
 refine fp fun K Z => ?_
 go_simp
 apply Z.out; clear Z K
 refine fp fun K Z => ?_
 go_simp
 apply Z.out; clear Z K
 refine og 2 60 false ?_ fun K Z => ?_
 · (
 simp (decide := true) only [Fact.G, reduceIte, hf.size])
 go_simp
 apply Z.out; clear Z K
 refine og 2 60 false ?_ fun K Z => ?_
 · (
 simp (decide := true) only [Fact.G, reduceIte, hf.size])
 go_simp
 apply Z.out; clear Z K
 refine fp fun K Z => ?_
 go_simp
 apply Z.out; clear Z K
 refine fp fun K Z => ?_
 go_simp
 apply Z.out; clear Z K
 refine og 6 64 false ?_ fun K Z => ?_
 · (
 simp (decide := true) only [Fact.G, reduceIte, hf.size])
 go_simp
 apply Z.out; clear Z K
 refine og 6 64 false ?_ fun K Z => ?_
 · (
 simp (decide := true) only [Fact.G, reduceIte, hf.size])
 go_simp
 apply Z.out; clear Z K
 refine fp fun K Z => ?_
 go_simp
 apply Z.out; clear Z K
 refine fp fun K Z => ?_
 go_simp
 apply Z.out; clear Z K
 refine og 10 68 false ?_ fun K Z => ?_
 · (
 simp (decide := true) only [Fact.G, reduceIte, hf.size])
 go_simp
 apply Z.out; clear Z K
 refine og 10 68 false ?_ fun K Z => ?_
 · (
 simp (decide := true) only [Fact.G, reduceIte, hf.size])
 go_simp
 apply Z.out; clear Z K
 refine og 10 68 false ?_ fun K Z => ?_
 · (
 simp (decide := true) only [Fact.G, reduceIte, hf.size])
 go_simp
 apply Z.out; clear Z K
 refine fp fun K Z => ?_
 go_simp
 apply Z.out; clear Z K
 refine fp fun K Z => ?_
 go_simp
 apply Z.out; clear Z K
 refine og 15 73 false ?_ fun K Z => ?_
 · (
 simp (decide := true) only [Fact.G, reduceIte, hf.size])
 go_simp
 apply Z.out; clear Z K
 refine og 15 73 false ?_ fun K Z => ?_
 · (
 simp (decide := true) only [Fact.G, reduceIte, hf.size])
 go_simp
 apply Z.out; clear Z K
 refine og 15 73 false ?_ fun K Z => ?_
 · (
 simp (decide := true) only [Fact.G, reduceIte, hf.size])
 go_simp
 go_at_call 16; refine (rsame U7 fa fa ia ia _ _ hrk hrA (fun s hs => by have := HKA.out.2.2.2.1 s hs; omega) (fun s hs => by have := HKA.out.2.2.2.1 s hs; omega) (by omega) (by omega)).mono ?_; rintro e u8 ⟨rfl, hb8⟩
 rw [decide_eq_true (show ia = ia ∧ fa = fa from ⟨rfl, rfl⟩)]
 replace k0 := cL hb8 k0; replace k1 := cL hb8 k1
 replace f0 := cL hb8 f0
 replace f1 := cL hb8 f1
 replace e0 := cL hb8 e0
 replace e1 := cL hb8 e1
 replace hrA := hrA.later hb8
 replace hrB := hrB.later hb8
 replace c0 := cL hb8 c0
 replace c1 := cL hb8 c1
 replace c2 := cL hb8 c2
 replace hE := cL hb8 hE
 replace hbt := hbt.trans (hb8.mono hbt.size)
 try dsimp only
 apply Z.out; clear Z K
 refine og 15 73 false ?_ fun K Z => ?_
 · (
 simp (decide := true) only [Fact.G, reduceIte, hf.size])
 go_simp
 apply Z.out; clear Z K
 refine fp fun K Z => ?_
 go_simp
 apply Z.out; clear Z K
 refine fp fun K Z => ?_
 go_simp
 apply Z.out; clear Z K
 refine og 21 79 false ?_ fun K Z => ?_
 · (
 simp (decide := true) only [Fact.G, reduceIte, hf.size])
 go_simp
 apply Z.out; clear Z K
 refine og 21 79 false ?_ fun K Z => ?_
 · (
 simp (decide := true) only [Fact.G, reduceIte, hf.size])
 go_simp
 apply Z.out; clear Z K
 refine og 21 79 false ?_ fun K Z => ?_
 · (
 simp (decide := true) only [Fact.G, reduceIte, hf.size])
 go_simp
 try rw [q24]
 apply Z.out; clear Z K
 refine og 21 79 false ?_ fun K Z => ?_
 · (
 simp (decide := true) only [Fact.G, reduceIte, hf.size])
 go_simp
 apply Z.out; clear Z K
 refine og 21 79 false ?_ fun K Z => ?_
 · (
 simp (decide := true) only [Fact.G, reduceIte, hf.size])
 go_simp
 apply Z.out; clear Z K
 refine og 21 79 false ?_ fun K Z => ?_
 · (
 simp (decide := true) only [Fact.G, reduceIte, hf.size])
 go_simp
 try rw [q27]
 apply Z.out; clear Z K
 refine og 21 79 false ?_ fun K Z => ?_
 · (
 simp (decide := true) only [Fact.G, reduceIte, hf.size])
 go_simp
 apply Z.out; clear Z K
 refine og 28 86 true ?_ fun K Z => ?_
 · (
 simp (decide := true) only [Fact.G, reduceIte, hf.size])
 go_simp
 apply Z.out; clear Z K
 refine og 28 86 true ?_ fun K Z => ?_
 · (
 simp (decide := true) only [Fact.G, reduceIte, hf.size])
 go_simp
 apply Z.out; clear Z K
 refine og 28 86 true ?_ fun K Z => ?_
 · (
 simp (decide := true) only [Fact.G, reduceIte, hf.size])
 go_simp
 go_at_call 16; refine (rsame u8 fa fb ia ib _ _ hrA hrB (fun s hs => by have := HKA.out.2.2.2.1 s hs; omega) (fun s hs => by have := HKB.out.2.2.2.1 s hs; omega) (by omega) (by omega)).mono ?_; rintro e u9 ⟨rfl, hb9⟩
 rw [decide_eq_false HN.out.2]
 replace f0 := cL hb9 f0
 replace f1 := cL hb9 f1
 replace e0 := cL hb9 e0
 replace e1 := cL hb9 e1
 replace hrA := hrA.later hb9
 replace hrB := hrB.later hb9
 replace c0 := cL hb9 c0
 replace c1 := cL hb9 c1
 replace c2 := cL hb9 c2
 replace hE := cL hb9 hE
 replace hbt := hbt.trans (hb9.mono hbt.size)
 try dsimp only
 apply Z.out; clear Z K
 refine og 21 79 false ?_ fun K Z => ?_
 · (
 simp (decide := true) only [Fact.G, reduceIte, hf.size])
 go_simp
 apply Z.out; clear Z K
 refine og 21 79 false ?_ fun K Z => ?_
 · (
 simp (decide := true) only [Fact.G, reduceIte, hf.size])
 go_simp
 apply Z.out; clear Z K
 refine fp fun K Z => ?_
 go_simp
 apply Z.out; clear Z K
 refine Fact.z hf fun fr1 hf1 hT => ?_
 have hKp : _ ∧ _ := ⟨hT 5, hT 92⟩
 simp (decide := true) only [Fact.G, hf.size, reduceIte, s5] at hKp
 replace hf := hf1; clear hT hf1 s5 s7 s8 s9 s10 s11 s12 s13 s14 s15 s16 s17 b58 b59 b60 b61 b62 b63 b64 b65 b66 b67 b68 b69 b70 b71 b72 b73 b74 b75 b76 b77 b78 b79 b80 b81 b82 b83 b84 b85 b86 b87 b88 b89 b90 b91
 obtain ⟨s5, s92⟩ := hKp
 refine nx (hK10 _ _ ?_)
 refine Fact.cond_f s92 ?_
 refine wp_skip ?_
 refine Fact.then_normal ?_
 exact ⟨hf, s5, c2, hE, hbt⟩)
 · (
 have HN := Lib.hid hn; clear hn
 have q24 : (SA.toList == SB.toList) = false := str_eq.trans (decide_eq_false (fun h => HN.out (by have := (HONE.out.1 h).1; omega)))
 have q27 : ((na : Int) == (nb : Int)) = false := beq_eq_false_iff_ne.2 (fun h => HN.out (by omega))
 refine Fact.sq fun K11 hK11 => ?_
 refine rg ?_
 have b58 := hf.b 58
 have b59 := hf.b 59
 have b60 := hf.b 60
 have b61 := hf.b 61
 have b62 := hf.b 62
 have b63 := hf.b 63
 have b64 := hf.b 64
 have b65 := hf.b 65
 have b66 := hf.b 66
 have b67 := hf.b 67
 have b68 := hf.b 68
 have b69 := hf.b 69
 have b70 := hf.b 70
 have b71 := hf.b 71
 have b72 := hf.b 72
 have b73 := hf.b 73
 have b74 := hf.b 74
 have b75 := hf.b 75
 have b76 := hf.b 76
 have b77 := hf.b 77
 have b78 := hf.b 78
 have b79 := hf.b 79
 have b80 := hf.b 80
 have b81 := hf.b 81
 have b82 := hf.b 82
 have b83 := hf.b 83
 have b84 := hf.b 84
 have b85 := hf.b 85
 have b86 := hf.b 86
 have b87 := hf.b 87
 have b88 := hf.b 88
 have b89 := hf.b 89
 have b90 := hf.b 90
 have b91 := hf.b 91
 refine fp fun K Z => ?_
 go_simp
 apply Z.out; clear Z K
 refine fp fun K Z => ?_
 go_simp
 apply Z.out; clear Z K
 refine fp fun K Z => ?_
 go_simp
 apply Z.out; clear Z K
 refine og 2 60 false ?_ fun K Z => ?_
 · (
 simp (decide := true) only [Fact.G, reduceIte, hf.size])
 go_simp
 apply Z.out; clear Z K
 refine og 2 60 false ?_ fun K Z => ?_
 · (
 simp (decide := true) only [Fact.G, reduceIte, hf.size])
 go_simp
 apply Z.out; clear Z K
 refine fp fun K Z => ?_
 go_simp
 apply Z.out; clear Z K
 refine fp fun K Z => ?_
 go_simp
 apply Z.out; clear Z K
 refine og 6 64 false ?_ fun K Z => ?_
 · (
 simp (decide := true) only [Fact.G, reduceIte, hf.size])
 go_simp
 apply Z.out; clear Z K
 refine og 6 64 false ?_ fun K Z => ?_
 · (
 simp (decide := true) only [Fact.G, reduceIte, hf.size])
 go_simp
 apply Z.out; clear Z K
 refine fp fun K Z => ?_
 go_simp
 apply Z.out; clear Z K
 refine fp fun K Z => ?_
 go_simp
 apply Z.out; clear Z K
 refine og 10 68 false ?_ fun K Z => ?_
 · (
 simp (decide := true) only [Fact.G, reduceIte, hf.size])
 go_simp
 apply Z.out; clear Z K
 refine og 10 68 false ?_ fun K Z => ?_
 · (
 simp (decide := true) only [Fact.G, reduceIte, hf.size])
 go_simp
 apply Z.out; clear Z K
 refine og 10 68 false ?_ fun K Z => ?_
 · (
 simp (decide := true) only [Fact.G, reduceIte, hf.size])
 go_simp
 apply Z.out; clear Z K
 refine fp fun K Z => ?_
 go_simp
 apply Z.out; clear Z K
 refine fp fun K Z => ?_
 go_simp
 apply Z.out; clear Z K
 refine og 15 73 false ?_ fun K Z => ?_
 · (
 simp (decide := true) only [Fact.G, reduceIte, hf.size])
 go_simp
 apply Z.out; clear Z K
 refine og 15 73 false ?_ fun K Z => ?_
 · (
 simp (decide := true) only [Fact.G, reduceIte, hf.size])
 go_simp
 apply Z.out; clear Z K
 refine og 15 73 false ?_ fun K Z => ?_
 · (
 simp (decide := true) only [Fact.G, reduceIte, hf.size])
 go_simp
 go_at_call 16; refine (rsame U7 fa fa ia ia _ _ hrk hrA (fun s hs => by have := HKA.out.2.2.2.1 s hs; omega) (fun s hs => by have := HKA.out.2.2.2.1 s hs; omega) (by omega) (by omega)).mono ?_; rintro e u8 ⟨rfl, hb8⟩
 rw [decide_eq_true (show ia = ia ∧ fa = fa from ⟨rfl, rfl⟩)]
 replace k0 := cL hb8 k0; replace k1 := cL hb8 k1
 replace f0 := cL hb8 f0
 replace f1 := cL hb8 f1
 replace e0 := cL hb8 e0
 replace e1 := cL hb8 e1
 replace hrA := hrA.later hb8
 replace hrB := hrB.later hb8
 replace c0 := cL hb8 c0
 replace c1 := cL hb8 c1
 replace c2 := cL hb8 c2
 replace hE := cL hb8 hE
 replace hbt := hbt.trans (hb8.mono hbt.size)
 try dsimp only
 apply Z.out; clear Z K
 refine og 15 73 false ?_ fun K Z => ?_
 · (
 simp (decide := true) only [Fact.G, reduceIte, hf.size])
 go_simp
 apply Z.out; clear Z K
 refine fp fun K Z => ?_
 go_simp
 apply Z.out; clear Z K
 refine fp fun K Z => ?_
 go_simp
 apply Z.out; clear Z K
 refine og 21 79 false ?_ fun K Z => ?_
 · (
 simp (decide := true) only [Fact.G, reduceIte, hf.size])
 go_simp
 apply Z.out; clear Z K
 refine og 21 79 false ?_ fun K Z => ?_
 · (
 simp (decide := true) only [Fact.G, reduceIte, hf.size])
 go_simp
 apply Z.out; clear Z K
 refine og 21 79 false ?_ fun K Z => ?_
 · (
 simp (decide := true) only [Fact.G, reduceIte, hf.size])
 go_simp
 try rw [q24]
 apply Z.out; clear Z K
 refine og 21 79 false ?_ fun K Z => ?_
 · (
 simp (decide := true) only [Fact.G, reduceIte, hf.size])
 go_simp
 apply Z.out; clear Z K
 refine og 21 79 false ?_ fun K Z => ?_
 · (
 simp (decide := true) only [Fact.G, reduceIte, hf.size])
 go_simp
 apply Z.out; clear Z K
 refine og 21 79 false ?_ fun K Z => ?_
 · (
 simp (decide := true) only [Fact.G, reduceIte, hf.size])
 go_simp
 try rw [q27]
 apply Z.out; clear Z K
 refine og 21 79 false ?_ fun K Z => ?_
 · (
 simp (decide := true) only [Fact.G, reduceIte, hf.size])
 go_simp
 apply Z.out; clear Z K
 refine sk 28 86 true ?_ ?_
 · (
 simp (decide := true) only [Fact.G, reduceIte, hf.size, Fact.N])
 refine sk 28 86 true ?_ ?_
 · (
 simp (decide := true) only [Fact.G, reduceIte, hf.size, Fact.N])
 refine sk 28 86 true ?_ ?_
 · (
 simp (decide := true) only [Fact.G, reduceIte, hf.size, Fact.N])
 refine og 21 79 false ?_ fun K Z => ?_
 · (
 simp (decide := true) only [Fact.G, reduceIte, hf.size])
 go_simp
 apply Z.out; clear Z K
 refine og 21 79 false ?_ fun K Z => ?_
 · (
 simp (decide := true) only [Fact.G, reduceIte, hf.size])
 go_simp
 apply Z.out; clear Z K
 refine fp fun K Z => ?_
 go_simp
 apply Z.out; clear Z K
 refine Fact.z hf fun fr1 hf1 hT => ?_
 have hKp : _ ∧ _ := ⟨hT 5, hT 92⟩
 simp (decide := true) only [Fact.G, hf.size, reduceIte, s5] at hKp
 replace hf := hf1; clear hT hf1 s5 s7 s8 s9 s10 s11 s12 s13 s14 s15 s16 s17 b58 b59 b60 b61 b62 b63 b64 b65 b66 b67 b68 b69 b70 b71 b72 b73 b74 b75 b76 b77 b78 b79 b80 b81 b82 b83 b84 b85 b86 b87 b88 b89 b90 b91
 obtain ⟨s5, s92⟩ := hKp
 refine nx (hK11 _ _ ?_)
 refine Fact.cond_f s92 ?_
 refine wp_skip ?_
 refine Fact.then_normal ?_
 exact ⟨hf, s5, c2, hE, hbt⟩))
 · (
 clear hf s5 s7 s8 s9 s10 s11 s12 s13 s14 s15 s16 s17
 rintro fr wq ⟨hf, s5, c2, hE, hbt⟩
 obtain ⟨m, hm⟩ : ∃ m, min S.size 300 = m := ⟨_, rfl⟩
 have HM := Lib.hid hm; clear hm
 refine Fact.sq fun K12 hK12 => ?_
 refine rg ?_
 have b93 := hf.b 93
 have b94 := hf.b 94
 have b95 := hf.b 95
 have b96 := hf.b 96
 have b97 := hf.b 97
 have b98 := hf.b 98
 have b99 := hf.b 99
 refine fp fun K Z => ?_
 go_simp
 apply Z.out; clear Z K
 refine fp fun K Z => ?_
 go_simp
 apply Z.out; clear Z K
 refine fp fun K Z => ?_
 go_simp
 apply Z.out; clear Z K
 refine fp fun K Z => ?_
 go_simp
 apply Z.out; clear Z K
 refine fp fun K Z => ?_
 go_simp
 apply Z.out; clear Z K
 refine fp fun K Z => ?_
 go_simp
 rw [show min ((S.size : Nat) : Int) 300 = ((m : Nat) : Int) by have := HM.out; omega]
 apply Z.out; clear Z K
 refine fp fun K Z => ?_
 go_simp
 rw [if_pos (show m ≤ S.size by have := HM.out; omega)]
 rw [Oper.upon_value]
 apply Z.out; clear Z K
 refine fp fun K Z => ?_
 go_simp
 apply Z.out; clear Z K
 refine Fact.z hf fun fr1 hf1 hT => ?_
 have hKp := hT 18
 simp (decide := true) only [Fact.G, hf.size, reduceIte] at hKp
 replace hf := hf1; clear hT hf1 s5 b93 b94 b95 b96 b97 b98 b99
 have s18 := hKp; clear hKp
 obtain ⟨T, hT⟩ : ∃ x, S.extract 0 m = x := ⟨_, rfl⟩
 rw [hT] at s18
 have hTs : T.size ≤ 300 := by rw [← hT, ByteArray.size_extract]; have := HM.out; omega
 clear hT c2
 refine nx (hK12 _ _ ?_)
 refine Fact.sq fun K13 hK13 => ?_
 refine Fact.sq fun K14 hK14 => ?_
 refine rg ?_
 have b100 := hf.b 100
 have b101 := hf.b 101
 have b102 := hf.b 102
 have b103 := hf.b 103
 have b104 := hf.b 104
 have b105 := hf.b 105
 refine fp fun K Z => ?_
 go_simp
 apply Z.out; clear Z K
 refine fp fun K Z => ?_
 go_simp
 apply Z.out; clear Z K
 refine fp fun K Z => ?_
 go_simp
 go_at_call 17; refine (seal17 wq T (by omega)).mono ?_; rintro e v2 ⟨rfl, hb2⟩
 obtain ⟨T1, hT1⟩ : ∃ y, bl (Crc.seal' (wl T)) = y := ⟨_, rfl⟩
 rw [hT1]
 have hzT1 : T1.size ≤ 400 := by rw [← hT1, bl_size, Crc.seal_length, wl_length]; omega
 clear hT1
 replace hE := cL hb2 hE
 replace hbt := hbt.trans (hb2.mono hbt.size)
 try dsimp only
 apply Z.out; clear Z K
 refine fp fun K Z => ?_
 go_simp
 apply Z.out; clear Z K
 refine fp fun K Z => ?_
 go_simp
 try simp (disch := omega) only [Fact.W]
 rw [if_neg (by omega)]
 rw [Oper.upon_value]
 obtain ⟨T3, hT3⟩ : ∃ x, (⟨#[67, 83, 1]⟩ : ByteArray) ++ T = x := ⟨_, rfl⟩
 rw [hT3]
 have hz3 : T3.size ≤ 303 := by rw [← hT3, ByteArray.size_append]; exact Nat.add_le_add (Nat.le_refl 3) hTs
 clear hT3
 apply Z.out; clear Z K
 refine fp fun K Z => ?_
 go_simp
 go_at_call 17; refine (seal17 v2 T3 (by omega)).mono ?_; rintro e v5 ⟨rfl, hb5⟩
 obtain ⟨T2, hT2⟩ : ∃ y, bl (Crc.seal' (wl T3)) = y := ⟨_, rfl⟩
 rw [hT2]
 have hzT2 : T2.size ≤ 400 := by rw [← hT2, bl_size, Crc.seal_length, wl_length]; omega
 clear hT2
 replace hE := cL hb5 hE
 replace hbt := hbt.trans (hb5.mono hbt.size)
 try dsimp only
 apply Z.out; clear Z K
 refine fp fun K Z => ?_
 go_simp
 apply Z.out; clear Z K
 refine fp fun K Z => ?_
 go_simp
 apply Z.out; clear Z K
 refine Fact.z hf fun fr1 hf1 hT => ?_
 have hKp : _ ∧ _ := ⟨hT 106, hT 107⟩
 simp (decide := true) only [Fact.G, hf.size, reduceIte] at hKp
 replace hf := hf1; clear hT hf1 s18 b100 b101 b102 b103 b104 b105
 obtain ⟨s106, s107⟩ := hKp
 refine nx (hK14 _ _ ?_)
 refine wp_block ?_
 refine wp_loop_ghost (fun gk fr wr => ∃ (k : Nat), gk = 3 - k ∧ k ≤ 3 ∧ Fact.Fr 132 fr ∧ fr.tmps[106]? = some (.agg #[.string T, .string T1, .string T2]) ∧ fr.tmps[107]? = some (.int .i64 k) ∧ ETy wr ∧ Below w.heap.size w wr) (3) ?_ ?_
 · (
 exact ⟨0, rfl, by omega, hf, s106, s107, hE, hbt⟩)
 · (
 clear hf s106 s107
 rintro gk fr wr ⟨k, hk, hk3, hf, s106, s107, hE, hbt⟩
 have HK := Lib.hid hk; clear hk
 refine Fact.sq fun K15 hK15 => ?_
 refine rg ?_
 refine fp fun K Z => ?_
 go_simp
 apply Z.out; clear Z K
 refine Fact.z hf fun fr1 hf1 hT => ?_
 have hKp : _ ∧ _ ∧ _ := ⟨hT 106, hT 107, hT 108⟩
 simp (decide := true) only [Fact.G, hf.size, reduceIte, s106, s107] at hKp
 replace hf := hf1; clear hT hf1 s106 s107
 obtain ⟨s106, s107, s108⟩ := hKp
 refine nx (hK15 _ _ ?_)
 refine Fact.sq fun K16 hK16 => ?_
 refine Fact.cond_s s108 (fun hq => ?_) (fun hq => ?_)
 · (
 have hlt : k < 3 := by have h9 := of_decide_eq_true hq; omega
 clear hq
 refine wp_skip ?_
 refine nx (hK16 _ _ ?_)
 refine Fact.sq fun K17 hK17 => ?_
 refine wp_block ?_
 refine Fact.seq_meet (fun fr w2 => ∃ y : ByteArray, Fact.Fr 132 fr ∧ fr.tmps[20]? = some (.string y) ∧ fr.tmps[106]? = some (.agg #[.string T, .string T1, .string T2]) ∧ fr.tmps[107]? = some (.int .i64 k) ∧ y.size ≤ 400 ∧ w2 = wr) ?_ ?_
 · (
 obtain rfl | rfl | rfl : k = 0 ∨ k = 1 ∨ k = 2 := by omega
 · (
 replace s107 := s107.trans (show some (Value.int .i64 ((0 : Nat) : Int)) = some (Value.int .i64 0) from rfl)
 refine rg ?_
 have b109 := hf.b 109
 refine fp fun K Z => ?_
 go_simp
 apply Z.out; clear Z K
 refine fp fun K Z => ?_
 go_simp
 apply Z.out; clear Z K
 refine Fact.z hf fun fr1 hf1 hT => ?_
 have hKp : _ ∧ _ ∧ _ := ⟨hT 20, hT 106, hT 107⟩
 simp (decide := true) only [Fact.G, hf.size, reduceIte, s106, s107] at hKp
 replace hf := hf1; clear hT hf1 s106 s107 s108 b109
 obtain ⟨s20, s106, s107⟩ := hKp
 refine Fact.then_normal ?_
 exact ⟨T, hf, s20, s106, s107, by omega, rfl⟩)
 · (
 replace s107 := s107.trans (show some (Value.int .i64 ((1 : Nat) : Int)) = some (Value.int .i64 1) from rfl)
 refine rg ?_
 have b109 := hf.b 109
 refine fp fun K Z => ?_
 go_simp
 apply Z.out; clear Z K
 refine fp fun K Z => ?_
 go_simp
 apply Z.out; clear Z K
 refine Fact.z hf fun fr1 hf1 hT => ?_
 have hKp : _ ∧ _ ∧ _ := ⟨hT 20, hT 106, hT 107⟩
 simp (decide := true) only [Fact.G, hf.size, reduceIte, s106, s107] at hKp
 replace hf := hf1; clear hT hf1 s106 s107 s108 b109
 obtain ⟨s20, s106, s107⟩ := hKp
 refine Fact.then_normal ?_
 exact ⟨T1, hf, s20, s106, s107, hzT1, rfl⟩)
 · (
 replace s107 := s107.trans (show some (Value.int .i64 ((2 : Nat) : Int)) = some (Value.int .i64 2) from rfl)
 refine rg ?_
 have b109 := hf.b 109
 refine fp fun K Z => ?_
 go_simp
 apply Z.out; clear Z K
 refine fp fun K Z => ?_
 go_simp
 apply Z.out; clear Z K
 refine Fact.z hf fun fr1 hf1 hT => ?_
 have hKp : _ ∧ _ ∧ _ := ⟨hT 20, hT 106, hT 107⟩
 simp (decide := true) only [Fact.G, hf.size, reduceIte, s106, s107] at hKp
 replace hf := hf1; clear hT hf1 s106 s107 s108 b109
 obtain ⟨s20, s106, s107⟩ := hKp
 refine Fact.then_normal ?_
 exact ⟨T2, hf, s20, s106, s107, hzT2, rfl⟩))
 · (
 clear hf s106 s107 s108
 rintro fr w2 ⟨y, hf, s20, s106, s107, hy, hw2⟩
 subst w2
 rcases hpg : pGet y with bz | ⟨en, init, ss⟩
 · (
 have HPG := Lib.hid hpg; clear hpg
 refine Fact.sq fun K18 hK18 => ?_
 refine rg ?_
 have b111 := hf.b 111
 have b112 := hf.b 112
 have b110 := hf.b 110
 have b113 := hf.b 113
 have b114 := hf.b 114
 have b115 := hf.b 115
 have b22 := hf.b 22
 refine fp fun K Z => ?_
 go_simp
 apply Z.out; clear Z K
 refine fp fun K Z => ?_
 go_simp
 go_at_call 15; refine (get15 wr y (by omega)).mono ?_; rintro e w14 hget
 rw [HPG.out] at hget
 obtain ⟨q, rfl, hq1, hq2, hb14⟩ := hget
 try dsimp only
 try dsimp only
 apply Z.out; clear Z K
 refine fp fun K Z => ?_
 go_simp
 apply Z.out; clear Z K
 refine fp fun K Z => ?_
 go_simp
 apply Z.out; clear Z K
 refine fp fun K Z => ?_
 go_simp
 apply Z.out; clear Z K
 refine fp fun K Z => ?_
 go_simp
 apply Z.out; clear Z K
 refine fp fun K Z => ?_
 go_simp
 apply Z.out; clear Z K
 refine fp fun K Z => ?_
 go_simp
 apply Z.out; clear Z K
 refine fp fun K Z => ?_
 go_simp
 apply Z.out; clear Z K
 refine fp fun K Z => ?_
 go_simp
 apply Z.out; clear Z K
 refine Fact.z hf fun fr1 hf1 hT => ?_
 have hKp : _ ∧ _ ∧ _ ∧ _ ∧ _ ∧ _ := ⟨hT 20, hT 21, hT 22, hT 23, hT 106, hT 107⟩
 simp (decide := true) only [Fact.G, hf.size, reduceIte, s20, s106, s107] at hKp
 replace hf := hf1; clear hT hf1 s20 s106 s107 b111 b112 b110 b113 b114 b115 b22
 obtain ⟨s20, s21, s22, s23, s106, s107⟩ := hKp
 obtain ⟨W14, hW14⟩ : ∃ W0, w14.alloc (.cells #[.slice none 0 0, .int .u64 0] 25) = W0 := ⟨_, rfl⟩
 try rw [hW14]
 obtain ⟨hbx, -, -, -, -⟩ := box2 hW14
 clear hW14
 replace hE := cL hbx (cL hb14 hE)
 replace hbt := hbt.trans ((hb14.trans (hbx.mono hb14.size)).mono hbt.size)
 refine nx (hK18 _ _ ?_)
 refine Fact.sq fun K19 hK19 => ?_
 refine Fact.sq fun K20 hK20 => ?_
 refine rg ?_
 have b116 := hf.b 116
 refine fp fun K Z => ?_
 go_simp
 apply Z.out; clear Z K
 refine fp fun K Z => ?_
 go_simp
 apply Z.out; clear Z K
 refine Fact.z hf fun fr1 hf1 hT => ?_
 have hKp : _ ∧ _ ∧ _ ∧ _ ∧ _ ∧ _ := ⟨hT 20, hT 21, hT 22, hT 106, hT 107, hT 117⟩
 simp (decide := true) only [Fact.G, hf.size, reduceIte, s20, s21, s22, s106, s107] at hKp
 replace hf := hf1; clear hT hf1 s20 s21 s22 s23 s106 s107 b116
 obtain ⟨s20, s21, s22, s106, s107, s117⟩ := hKp
 refine nx (hK20 _ _ ?_)
 refine Fact.cond_t s117 ?_
 refine wp_exit ?_
 refine Fact.then_exit ?_
 refine Fact.block_exit ?_
 refine nx (hK17 _ _ ?_)
 refine rg ?_
 have b131 := hf.b 131
 refine fp fun K Z => ?_
 go_simp
 try simp (disch := omega) only [Fact.W]
 apply Z.out; clear Z K
 refine fp fun K Z => ?_
 go_simp
 apply Z.out; clear Z K
 refine Fact.z hf fun fr1 hf1 hT => ?_
 have hKp : _ ∧ _ := ⟨hT 106, hT 107⟩
 simp (decide := true) only [Fact.G, hf.size, reduceIte, s106] at hKp
 replace hf := hf1; clear hT hf1 s20 s21 s22 s106 s107 s117 b131
 obtain ⟨s106, s107⟩ := hKp
 refine Fact.then_normal ?_
 exact ⟨_, by have := HK.out; omega, k + 1, rfl, by omega, hf, s106, by rw [s107]; rfl, hE, hbt⟩)
 · (
 have hga := pGet_again (by omega) hpg
 have HPG := Lib.hid hpg; have HGA := Lib.hid hga; clear hpg hga
 refine Fact.sq fun K21 hK21 => ?_
 refine rg ?_
 have b111 := hf.b 111
 have b112 := hf.b 112
 have b110 := hf.b 110
 have b113 := hf.b 113
 have b114 := hf.b 114
 have b115 := hf.b 115
 have b22 := hf.b 22
 refine fp fun K Z => ?_
 go_simp
 apply Z.out; clear Z K
 refine fp fun K Z => ?_
 go_simp
 go_at_call 15; refine (get15 wr y (by omega)).mono ?_; rintro e w14 hget
 rw [HPG.out] at hget
 obtain ⟨sv, rfl, hrs, hb14⟩ := hget
 obtain ⟨A14, c14, rfl, hc14⟩ := hrs.form
 try dsimp only
 try dsimp only
 apply Z.out; clear Z K
 refine fp fun K Z => ?_
 go_simp
 apply Z.out; clear Z K
 refine fp fun K Z => ?_
 go_simp
 apply Z.out; clear Z K
 refine fp fun K Z => ?_
 go_simp
 apply Z.out; clear Z K
 refine fp fun K Z => ?_
 go_simp
 apply Z.out; clear Z K
 refine fp fun K Z => ?_
 go_simp
 apply Z.out; clear Z K
 refine fp fun K Z => ?_
 go_simp
 apply Z.out; clear Z K
 refine fp fun K Z => ?_
 go_simp
 apply Z.out; clear Z K
 refine fp fun K Z => ?_
 go_simp
 apply Z.out; clear Z K
 refine Fact.z hf fun fr1 hf1 hT => ?_
 have hKp : _ ∧ _ ∧ _ ∧ _ ∧ _ ∧ _ := ⟨hT 20, hT 21, hT 22, hT 23, hT 106, hT 107⟩
 simp (decide := true) only [Fact.G, hf.size, reduceIte, s20, s106, s107] at hKp
 replace hf := hf1; clear hT hf1 s20 s106 s107 b111 b112 b110 b113 b114 b115 b22
 obtain ⟨s20, s21, s22, s23, s106, s107⟩ := hKp
 obtain ⟨W14, hW14⟩ : ∃ W0, w14.alloc (.cells #[.slice A14 ss.length c14, .int .u64 init] 25) = W0 := ⟨_, rfl⟩
 try rw [hW14]
 obtain ⟨hbx, k0, k1, -, -⟩ := box2 hW14
 clear hW14
 replace hE := cL hbx (cL hb14 hE)
 replace hbt := hbt.trans ((hb14.trans (hbx.mono hb14.size)).mono hbt.size)
 replace hrs := hrs.later hbx
 refine nx (hK21 _ _ ?_)
 refine Fact.sq fun K22 hK22 => ?_
 refine Fact.sq fun K23 hK23 => ?_
 refine rg ?_
 have b116 := hf.b 116
 refine fp fun K Z => ?_
 go_simp
 apply Z.out; clear Z K
 refine fp fun K Z => ?_
 go_simp
 apply Z.out; clear Z K
 refine Fact.z hf fun fr1 hf1 hT => ?_
 have hKp : _ ∧ _ ∧ _ ∧ _ ∧ _ ∧ _ := ⟨hT 20, hT 21, hT 22, hT 106, hT 107, hT 117⟩
 simp (decide := true) only [Fact.G, hf.size, reduceIte, s20, s21, s22, s106, s107] at hKp
 replace hf := hf1; clear hT hf1 s20 s21 s22 s23 s106 s107 b116
 obtain ⟨s20, s21, s22, s106, s107, s117⟩ := hKp
 refine nx (hK23 _ _ ?_)
 refine Fact.cond_f s117 ?_
 refine wp_skip ?_
 refine nx (hK22 _ _ ?_)
 refine Fact.sq fun K24 hK24 => ?_
 refine rg ?_
 have b119 := hf.b 119
 have b120 := hf.b 120
 have b121 := hf.b 121
 have b118 := hf.b 118
 have b122 := hf.b 122
 have b123 := hf.b 123
 refine fp fun K Z => ?_
 go_simp
 apply Z.out; clear Z K
 refine fp fun K Z => ?_
 go_simp
 apply Z.out; clear Z K
 refine fp fun K Z => ?_
 go_simp
 go_at_call 14; refine (put14 W14 (en : Nat) _ init ss hrs HGA.out.1 HGA.out.2.2.1 HGA.out.2.2.2.1 HGA.out.2.1).mono ?_; rintro e w16 ⟨rfl, hb16⟩
 rw [HGA.out.2.2.2.2]
 dsimp only
 rw [bl_wl]
 replace hE := cL hb16 hE
 replace hbt := hbt.trans (hb16.mono hbt.size)
 try dsimp only
 apply Z.out; clear Z K
 refine fp fun K Z => ?_
 go_simp
 apply Z.out; clear Z K
 refine fp fun K Z => ?_
 go_simp
 apply Z.out; clear Z K
 refine fp fun K Z => ?_
 go_simp
 apply Z.out; clear Z K
 refine fp fun K Z => ?_
 go_simp
 apply Z.out; clear Z K
 refine fp fun K Z => ?_
 go_simp
 apply Z.out; clear Z K
 refine Fact.z hf fun fr1 hf1 hT => ?_
 have hKp : _ ∧ _ ∧ _ ∧ _ ∧ _ := ⟨hT 20, hT 24, hT 25, hT 106, hT 107⟩
 simp (decide := true) only [Fact.G, hf.size, reduceIte, s20, s106, s107] at hKp
 replace hf := hf1; clear hT hf1 s20 s21 s22 s106 s107 s117 b119 b120 b121 b118 b122 b123
 obtain ⟨s20, s24, s25, s106, s107⟩ := hKp
 refine nx (hK24 _ _ ?_)
 refine Fact.sq fun K25 hK25 => ?_
 refine rg ?_
 have b124 := hf.b 124
 have b125 := hf.b 125
 have b126 := hf.b 126
 have b127 := hf.b 127
 have b128 := hf.b 128
 have b129 := hf.b 129
 refine fp fun K Z => ?_
 go_simp
 apply Z.out; clear Z K
 refine fp fun K Z => ?_
 go_simp
 apply Z.out; clear Z K
 refine fp fun K Z => ?_
 go_simp
 apply Z.out; clear Z K
 refine og 2 126 false ?_ fun K Z => ?_
 · (
 simp (decide := true) only [Fact.G, reduceIte, hf.size])
 go_simp
 apply Z.out; clear Z K
 refine og 2 126 false ?_ fun K Z => ?_
 · (
 simp (decide := true) only [Fact.G, reduceIte, hf.size])
 go_simp
 apply Z.out; clear Z K
 refine og 2 126 false ?_ fun K Z => ?_
 · (
 simp (decide := true) only [Fact.G, reduceIte, hf.size])
 go_simp
 apply Z.out; clear Z K
 refine fp fun K Z => ?_
 go_simp
 apply Z.out; clear Z K
 refine Fact.z hf fun fr1 hf1 hT => ?_
 have hKp : _ ∧ _ ∧ _ := ⟨hT 106, hT 107, hT 130⟩
 simp (decide := true) only [Fact.G, hf.size, reduceIte, s106, s107] at hKp
 replace hf := hf1; clear hT hf1 s20 s24 s25 s106 s107 b124 b125 b126 b127 b128 b129
 obtain ⟨s106, s107, s130⟩ := hKp
 refine nx (hK25 _ _ ?_)
 refine Fact.cond_f s130 ?_
 refine wp_skip ?_
 refine Fact.block_normal ?_
 refine nx (hK17 _ _ ?_)
 refine rg ?_
 have b131 := hf.b 131
 refine fp fun K Z => ?_
 go_simp
 try simp (disch := omega) only [Fact.W]
 apply Z.out; clear Z K
 refine fp fun K Z => ?_
 go_simp
 apply Z.out; clear Z K
 refine Fact.z hf fun fr1 hf1 hT => ?_
 have hKp : _ ∧ _ := ⟨hT 106, hT 107⟩
 simp (decide := true) only [Fact.G, hf.size, reduceIte, s106] at hKp
 replace hf := hf1; clear hT hf1 s106 s107 s130 b131
 obtain ⟨s106, s107⟩ := hKp
 refine Fact.then_normal ?_
 exact ⟨_, by have := HK.out; omega, k + 1, rfl, by omega, hf, s106, by rw [s107]; rfl, hE, hbt⟩)))
 · (
 clear hq
 refine wp_exit ?_
 refine Fact.then_exit ?_
 refine Fact.then_exit ?_
 refine Fact.block_exit ?_
 refine nx (hK13 _ _ ?_)
 refine Fact.sq fun K26 hK26 => ?_
 refine rg ?_
 refine fp fun K Z => ?_
 go_simp
 apply Z.out; clear Z K
 refine Fact.z hf fun fr1 hf1 hT => ?_
 have hKp := hT 6
 simp (decide := true) only [Fact.G, hf.size, reduceIte] at hKp
 replace hf := hf1; clear hT hf1 s106 s107 s108
 have s6 := hKp; clear hKp
 refine nx (hK26 _ _ ?_)
 refine wp_ret ?_
 exact Fact.ret1 rfl hf s6 ⟨rfl, hbt⟩)))
end Dw
end Go.Proofs.YtdkbgbdgmihlmaaDoor
