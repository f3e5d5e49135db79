/- pack: Put, Size. -/
import Derived.Test.YtdkbgbdgmihlmaaGreatDoorQG
import Derived.Test.YtdkbgbdgmihlmaaGreatDoorQB
import Derived.Test.YtdkbgbdgmihlmaaGreatDoorTools
namespace Go.Proofs.YtdkbgbdgmihlmaaGreatDoor
open Go.RowKit
set_option linter.unusedSimpArgs false
set_option linter.unusedVariables false
set_option linter.unnecessarySimpa false
namespace Dw

def statesB : Nat → List State → List Nat
  | _, [] => []
  | i, s :: l => stB i s ++ statesB (i + 1) l
/-- what is laid, without its seal -/
def bodyB (en : Nat) (init : Nat) (ss : List State) : List Nat := [67, 83, 1] ++ numsB [en, ss.length] ++ statesB 0 ss ++ numsB [init]
def putR (en : Int) (init : Nat) (ss : List State) : List Nat × Nat := if mayF en ss then (Crc.seal' (bodyB en.toNat init ss), 0) else ([], 2)
theorem may_out {en : Int} {ss : List State} (h : mayF en ss = true) : 0 ≤ en ∧ en ≤ 100000 ∧ 0 < ss.length ∧ mayL 0 ss = true := by
  unfold mayF at h
  simp at h
  exact ⟨h.1.1.1, h.1.1.2, by omega, h.2⟩
theorem mayL_at : ∀ {l : List State} {k i : Nat} {s : State}, mayL k l = true → l[i]? = some s → s.arcs.length ≤ 256 ∧ ∀ a ∈ s.arcs, 0 ≤ a.to ∧ a.to < ((k + i : Nat) : Int)
  | s :: l, k, 0, x, h, hi => by
    simp only [List.getElem?_cons_zero, Option.some.injEq] at hi
    subst hi
    simp only [mayL, Bool.and_eq_true, decide_eq_true_eq] at h
    refine ⟨h.1.1.1, ?_⟩
    have key : ∀ l : List Arc, okTo k l = true → ∀ a ∈ l, 0 ≤ a.to ∧ a.to < (k : Int) := by
      intro l
      induction l with
      | nil => intro _ a ha; cases ha
      | cons b l ih =>
        intro h1 a ha
        simp only [okTo, Bool.and_eq_true, decide_eq_true_eq] at h1
        rcases List.mem_cons.1 ha with rfl | ha
        · exact h1.1
        · exact ih h1.2 a ha
    exact key _ h.1.2
  | s :: l, k, i + 1, x, h, hi => by
    simp only [mayL, Bool.and_eq_true] at h
    have h9 := mayL_at (i := i) (s := x) h.2 (by simpa using hi)
    rw [show k + (i + 1) = k + 1 + i by omega]
    exact h9
theorem statesB_append : ∀ (a b : List State) (k : Nat), statesB k (a ++ b) = statesB k a ++ statesB (k + a.length) b
  | [], b, k => by simp [statesB]
  | s :: a, b, k => by
    simp only [List.cons_append, statesB, List.length_cons]
    rw [statesB_append a b (k + 1), List.append_assoc, show k + 1 + a.length = k + (a.length + 1) by omega]
theorem statesB_take {l : List State} {i : Nat} {s : State} (h : l[i]? = some s) : statesB 0 (l.take (i + 1)) = statesB 0 (l.take i) ++ stB i s := by
  have hl := (List.getElem?_eq_some_iff.1 h).1
  rw [List.take_add_one, h, statesB_append]
  simp [statesB]
  congr 1
  omega
theorem stB_le {i : Nat} {s : State} (h : okS s) (h2 : s.arcs.length ≤ 256) (hi : i ≤ 1000000) : (stB i s).length ≤ 4882 := by
  have h1 := headB_le h.1 (by omega)
  have h3 := arcsB_len hi s.arcs h.2.2
  unfold stB
  simp only [List.length_append]
  omega
theorem statesB_len : ∀ (l : List State) (k : Nat), (∀ s ∈ l, okS s) → mayL k l = true → k + l.length ≤ 1000000 → (statesB k l).length ≤ 4882 * l.length
  | [], _, _, _, _ => by simp [statesB]
  | s :: l, k, h, hm, hk => by
    have h1 := mayL_at (i := 0) hm rfl
    simp only [mayL, Bool.and_eq_true] at hm
    simp only [List.length_cons] at hk
    have h2 := stB_le (i := k) (h s (List.mem_cons_self ..)) h1.1 (by omega)
    have h3 := statesB_len l (k + 1) (fun x hx => h x (List.mem_cons_of_mem _ hx)) hm.2 (by omega)
    simp only [statesB, List.length_append, List.length_cons]
    omega
theorem mayL_take : ∀ (l : List State) (k i : Nat), mayL k l = true → mayL k (l.take i) = true
  | _, _, 0, _ => by simp [mayL]
  | [], _, i + 1, _ => by simp [mayL]
  | s :: l, k, i + 1, h => by
    simp only [mayL, Bool.and_eq_true, List.take_succ_cons] at h ⊢
    exact ⟨h.1, mayL_take l (k + 1) i h.2⟩
theorem statesB_le {l : List State} (h : ∀ s ∈ l, okS s) (hm : mayL 0 l = true) (hk : l.length ≤ 1000000) (i : Nat) : (statesB 0 (l.take i)).length ≤ 4882 * l.length := by
  have h2 : (l.take i).length ≤ l.length := by simp; omega
  have h1 := statesB_len (l.take i) 0 (fun s hs => h s (List.mem_of_mem_take hs)) (mayL_take l 0 i hm) (by omega)
  omega
theorem arcsB_small {i : Nat} (hi : i ≤ 1000000) {l : List Arc} (h : ∀ a ∈ l, okA a) : Small (arcsB i l) := fun x hx => by
  obtain ⟨a, ha, hx⟩ := List.mem_flatMap.1 hx
  have h1 := h a ha
  rcases List.mem_cons.1 hx with rfl | hx
  · exact h1.1
  · exact numsB_small (by intro y hy; simp at hy; have := h1.2.1; unfold M64; rcases hy with rfl | rfl <;> omega) x hx
theorem stB_small {i : Nat} {s : State} (h : okS s) (h2 : s.arcs.length ≤ 256) (hi : i ≤ 1000000) : Small (stB i s) := by
  refine Small.append ?_ (arcsB_small hi h.2.2)
  refine numsB_small (fun y hy => ?_)
  have := h.1
  unfold M64
  split at hy <;> simp at hy <;> (try rcases hy with rfl | rfl) <;> omega
theorem statesB_small : ∀ (l : List State) (k : Nat), (∀ s ∈ l, okS s) → mayL k l = true → k + l.length ≤ 1000000 → Small (statesB k l)
  | [], _, _, _, _ => Small.nil
  | s :: l, k, h, hm, hk => by
    have h1 := mayL_at (i := 0) hm rfl
    simp only [mayL, Bool.and_eq_true] at hm
    simp only [List.length_cons] at hk
    exact (stB_small (h s (List.mem_cons_self ..)) h1.1 (by omega)).append (statesB_small l (k + 1) (fun x hx => h x (List.mem_cons_of_mem _ hx)) hm.2 (by omega))
theorem bodyB_small {n init : Nat} {ss : List State} (h : ∀ s ∈ ss, okS s) (hm : mayL 0 ss = true) (hl : ss.length ≤ 100000) (hn : n ≤ 100000) (hi : init < 18446744073709551616) : Small (bodyB n init ss) := by
  refine ((Small.append (by intro x hx; simp at hx; omega) (numsB_small (by intro y hy; simp at hy; unfold M64; rcases hy with rfl | rfl <;> omega))).append (statesB_small ss 0 h hm (by omega))).append (numsB_small (by intro y hy; simp at hy; unfold M64; omega))
set_option maxHeartbeats 4000000 in
set_option maxRecDepth 100000 in
theorem put14 (w : World) (en : Int) (sv : Value) (init : Nat) (ss : List State) (hrs : RS w sv ss) (hok : ∀ s ∈ ss, okS s) (hlen : ss.length ≤ 100000) (hfew : ∀ s ∈ ss, s.arcs.length ≤ 1000) (hinit : init < 18446744073709551616) : Calls Tryz.prog 7 #[.int .i64 en, .agg #[sv, .int .u64 init]] w fun e w1 => e = .returned (.tuple #[.string (bl (putR en init ss).1), .int .i64 (putR en init ss).2]) ∧ Below w.heap.size w w1 := by
 refine calls_of_wp Tryz.func7 rfl ?_
 refine Fact.en 60 fun fr hf hT => ?_
 have s0 := hT 0 _ rfl
 have s1 := hT 1 _ rfl
 clear hT
 have hrn := hrs.n
 obtain ⟨A, cc, rfl, hcc⟩ := hrs.form
 have HO := Lib.hid hok; have HF := Lib.hid hfew; clear hok hfew
 have hM : M64 = 18446744073709551616 := rfl
 have hrs1 := hrs
 refine Fact.sq fun K1 hK1 => ?_
 refine rg ?_
 iterate 3 (refine fp fun K Z => ?_; go_simp; apply Z.out; clear Z K)
 refine Fact.z hf fun fr1 hf1 hT => ?_
 have hKp : _ ∧ _ := ⟨hT 0, hT 3⟩
 simp (decide := true) only [Fact.G, hf.size, reduceIte, s0] at hKp
 replace hf := hf1; clear hT hf1 s0 s1
 obtain ⟨s0, s3⟩ := hKp
 obtain ⟨W0, hW0⟩ : ∃ W0, w.alloc (.cells #[.slice A ss.length cc, .int .u64 init] 33) = W0 := ⟨_, rfl⟩
 try rw [hW0]
 obtain ⟨hb0, c0, c1, -, hz0_⟩ := box2 hW0
 clear hW0
 have hz0 : w.heap.size < W0.heap.size := by rw [hz0_]; exact Nat.lt_succ_self _
 clear hz0_
 have hr0 := hrs.later hb0
 clear hrs
 refine nx (hK1 _ _ ?_)
 refine Fact.sq fun K2 hK2 => ?_
 refine Fact.sq fun K3 hK3 => ?_
 refine rg ?_
 have b8 := hf.b 8
 have b9 := hf.b 9
 have b10 := hf.b 10
 iterate 2 (refine fp fun K Z => ?_; go_simp; apply Z.out; clear Z K)
 refine fp fun K Z => ?_
 go_simp
 go_at_call 26; refine (may28 W0 en _ init ss hr0 HO.out (by omega) HF.out).mono ?_; rintro e w1 ⟨rfl, hb1⟩
 try dsimp only
 apply Z.out; clear Z K
 refine fp fun K Z => ?_
 go_simp
 apply Z.out; clear Z K
 refine Fact.z hf fun fr1 hf1 hT => ?_
 have hKp : _ ∧ _ ∧ _ := ⟨hT 0, hT 3, hT 11⟩
 simp (decide := true) only [Fact.G, hf.size, reduceIte, s0, s3] at hKp
 replace hf := hf1; clear hT hf1 s0 s3 b8 b9 b10
 obtain ⟨s0, s3, s11⟩ := hKp
 have e0 := cL hb1 c0
 have e1 := cL hb1 c1
 have hbz := hb0.trans (hb1.mono hb0.size)
 clear c0 c1 hr0
 refine nx (hK3 _ _ ?_)
 rcases hmy : mayF en ss with _ | _
 · (
 have HM := Lib.hid hmy
 rw [hmy] at s11
 simp only [Bool.not_false, Bool.not_true] at s11
 clear hmy
 refine Fact.cond_t s11 ?_
 refine Fact.sq fun K4 hK4 => ?_
 refine rg ?_
 iterate 2 (refine fp fun K Z => ?_; go_simp; apply Z.out; clear Z K)
 refine Fact.z hf fun fr1 hf1 hT => ?_
 have hKp : _ ∧ _ := ⟨hT 4, hT 5⟩
 simp (decide := true) only [Fact.G, hf.size, reduceIte] at hKp
 replace hf := hf1; clear hT hf1 s0 s3 s11
 obtain ⟨s4, s5⟩ := hKp
 refine nx (hK4 _ _ ?_)
 refine wp_ret ?_
 refine Fact.then_ret ?_
 exact Fact.ret2 rfl hf s4 s5 ⟨by unfold putR; rw [HM.out]; rfl, hbz⟩)
 · (
 have HM := Lib.hid hmy
 rw [hmy] at s11
 simp only [Bool.not_false, Bool.not_true] at s11
 clear hmy
 refine Fact.cond_f s11 ?_
 obtain ⟨he0, he1, hs0, hml⟩ := may_out HM.out
 obtain ⟨n, hn⟩ : ∃ n : Nat, en = (n : Int) := ⟨en.toNat, by omega⟩
 subst hn
 have hrw := hrn.below hbz
 have HML := Lib.hid hml; clear hml hrn hrs1
 have hen : n ≤ 100000 := by omega
 have HNE := Lib.hid (show (n : Int).toNat = n by omega)
 clear he0 he1
 refine wp_skip ?_
 refine nx (hK2 _ _ ?_)
 refine Fact.sq fun K5 hK5 => ?_
 refine rg ?_
 have b12 := hf.b 12
 have b13 := hf.b 13
 have b14 := hf.b 14
 iterate 4 (refine fp fun K Z => ?_; go_simp; apply Z.out; clear Z K)
 refine Fact.z hf fun fr1 hf1 hT => ?_
 have hKp : _ ∧ _ ∧ _ := ⟨hT 0, hT 3, hT 6⟩
 simp (decide := true) only [Fact.G, hf.size, reduceIte, s0, s3] at hKp
 replace hf := hf1; clear hT hf1 s0 s3 s11 b12 b13 b14
 obtain ⟨s0, s3, s6⟩ := hKp
 obtain ⟨g, hg⟩ : ∃ x, w1.heap.size = x := ⟨_, rfl⟩
 obtain ⟨W3, hW3⟩ : ∃ x, w1.alloc (.cells #[.slice none 0 0, .slice A ss.length cc, .int .u64 init] 87) = x := ⟨_, rfl⟩
 try rw [hW3]
 try rw [hg] at s6
 have hb3 : Below w1.heap.size w1 W3 := by rw [← hW3]; exact (Below.refl _ _).alloc (Nat.le_refl _) _
 have hx3 : W3.heap[g]? = some (.cells #[.slice none 0 0, .slice A ss.length cc, .int .u64 init] 87 (0, 0)) := by rw [← hW3, ← hg]; exact heap_alloc_new w1 _
 have hg3 : g < W3.heap.size := heap_lt hx3
 have hl3 : LW W3 g g [.slice A ss.length cc, .int .u64 init] 87 (.slice none 0 0) [] := ⟨hx3, OB.nil_ _ _, by intro e; cases e⟩
 have y0 := cL hb3 e0; have y1 := cL hb3 e1
 have hrg := hrw.below ((hb3.mono hbz.size) : Below w.heap.size w1 W3)
 have hwg : w.heap.size ≤ g := by rw [← hg]; exact hbz.size
 have hwg2 : w.heap.size < g := by rw [← hg]; have := hb1.size; omega
 have hgs := Nat.le_of_lt hg3
 have hbz3 := hbz.trans (hb3.mono hbz.size)
 clear hW3 hg e0 e1 hrw hb3
 have hrg0 := Lib.hid hrg
 have HY1 := Lib.hid y1; clear y1
 refine nx (hK5 _ _ ?_)
 refine Fact.sq fun K6 hK6 => ?_
 refine rg ?_
 have b15 := hf.b 15
 have b16 := hf.b 16
 have b17 := hf.b 17
 have b18 := hf.b 18
 have b19 := hf.b 19
 have b20 := hf.b 20
 have b21 := hf.b 21
 have b22 := hf.b 22
 have b23 := hf.b 23
 have b24 := hf.b 24
 iterate 5 (refine fp fun K Z => ?_; go_simp; apply Z.out; clear Z K)
 have u0 := cell_of_row _ _ 0 _ 87 (0, 0) hx3
 simp at u0
 refine fp fun K Z => ?_
 go_simp
 apply Z.out; clear Z K
 refine Fact.reL (n := 60) (by simp only [Fact.G, hf.size]) hf.defers (fun fr1 hf1 hT => ?_)
 have hKp : _ ∧ _ ∧ _ ∧ _ ∧ _ := ⟨hT 0, hT 3, hT 6, hT 15, hT 20⟩
 simp (decide := true) only [Fact.G, hf.size, reduceIte, s0, s3, s6] at hKp
 replace hf := hf1; clear hT hf1 s0 s3 s6 b15 b16 b17 b18 b19 b20 b21 b22 b23 b24
 obtain ⟨s0, s3, s6, s15, s20⟩ := hKp
 have b21 := hf.b 21
 have b22 := hf.b 22
 have b23 := hf.b 23
 have b24 := hf.b 24
 refine ⟨?_⟩
 refine wpList_plain rfl fun KL hKL => ?_
 refine wp_appstr _ _ rfl g (.slice none 0 0) [] (Fact.eval_tmp s20) hl3.2.1 (bl [67, 83, 1]) (by rw [show bl [67, 83, 1] = ⟨#[67, 83, 1]⟩ by decide]; rfl) (by rw [bl_size]; simp) (by omega) (fun v4 w4 hr4 hg4 hat4 => hKL _ _ ?_)
 rw [wl_bl (by intro x hx; simp at hx; omega), List.nil_append] at hr4
 refine Fact.L.out ?_
 iterate 3 (refine fp fun K Z => ?_; go_simp; apply Z.out; clear Z K)
 have hx4 := (hg4.block g hg3 (by intro e; cases e)).trans hx3
 have u1 := cell_of_row _ _ 0 _ 87 (0, 0) hx4
 simp at u1
 have fz := frozen_of (i := 0) hx4
 obtain ⟨A9, c9, hv9, _⟩ := row_form hr4
 rw [show ([67, 83, 1] : List Nat).length = 3 from rfl] at hv9
 subst hv9
 refine fp fun K Z => ?_
 go_simp
 apply Z.out; clear Z K
 refine Fact.z hf fun fr1 hf1 hT => ?_
 have hKp : _ ∧ _ ∧ _ := ⟨hT 0, hT 3, hT 6⟩
 simp (decide := true) only [Fact.G, reduceIte, s0, s3, s6] at hKp
 replace hf := hf1; clear hT hf1 s0 s3 s6 s15 s20 b21 b22 b23 b24
 obtain ⟨s0, s3, s6⟩ := hKp
 obtain ⟨hl5, hf5⟩ := hl3.step (Below.refl _ _) hr4 hg4 hat4 (Nat.le_refl _)
 obtain ⟨W5, hW5⟩ : ∃ x, w4.setCell ⟨g, 0, none⟩ (.slice A9 3 c9) = x := ⟨_, rfl⟩
 try rw [hW5]
 rw [hW5] at hl5 hf5
 have HY0 := Lib.hid y0
 replace y0 := ((hf5.below hgs (Nat.le_refl g) hl3.lo).cell (p := ⟨w.heap.size, 0, none⟩) hwg2).trans HY0.out
 refine nx (hK6 _ _ ?_)
 refine Fact.sq fun K7 hK7 => ?_
 refine Stab.tb 60 fun hok => ?_
 refine Stab.mO 0 s6 hf hok ?_
 apply Stab.tq 1 _ hf hok
 · (
 intro fr1 w1 hh hd hk K Z
 have s25 := Stab.v 0 0 hd hk []
 clear hd
 go_simp
 exact Stab.k Z)
 apply Stab.tq 2 _ hf hok
 · (
 intro fr1 w1 hh hd hk K Z
 have s26 := Stab.v 1 0 hd hk []
 clear hd
 go_simp
 exact Stab.k Z)
 refine Stab.mO 3 s0 hf hok ?_
 apply Stab.tq 4 _ hf hok
 · (
 intro fr1 w1 hh hd hk K Z
 have s28 := Stab.v 3 0 hd hk []
 clear hd
 go_simp
 try simp (disch := omega) only [Fact.wrap_u64]
 exact Stab.k Z)
 apply Stab.tq 5 _ hf hok
 · (
 intro fr1 w1 hh hd hk K Z
 have s3 := Stab.O hh s3
 clear hd
 go_simp
 exact Stab.k Z)
 apply Stab.tq 6 _ hf hok
 · (
 intro fr1 w1 hh hd hk K Z
 have s30 := Stab.v 5 0 hd hk []
 clear hd
 replace y0 := cL hh.ext y0
 go_simp
 exact Stab.k Z)
 apply Stab.tq 7 _ hf hok
 · (
 intro fr1 w1 hh hd hk K Z
 have s31 := Stab.v 6 0 hd hk []
 clear hd
 replace y0 := cL hh.ext y0
 go_simp
 exact Stab.k Z)
 apply Stab.tq 8 _ hf hok
 · (
 intro fr1 w1 hh hd hk K Z
 have s32 := Stab.v 7 0 hd hk []
 clear hd
 go_simp
 try simp (disch := omega) only [Fact.wrap_u64]
 exact Stab.k Z)
 refine Stab.todo_op (k := 9) (n := 60) (RNs [n, ss.length]) hf.size hok.out rfl (RNs.stable _) ?_ ?_
 · (
 intro fr1 w1 hh hd hk K Z
 refine Stab.pl ?_
 have s29 := Stab.v 4 4 hd hk []
 have s33 := Stab.v 8 0 hd hk []
 clear hd
 go_simp
 exact Z.out _ rfl _ _ ((Below.refl _ _).alloc (Nat.le_refl _) _) (rn_new _ [n, ss.length] _))
 refine Tail.todo_tail (n := 60) (m := 10) (ws := [(10, 0, [2, 1]), (10, 1, [2]), (10, 3, [9, 4]), (10, 4, [9]), (10, 5, [9, 8, 7, 6]), (10, 6, [9, 8, 7]), (10, 7, [9, 8]), (10, 8, [9])]) (by kernel_rfl) hf.size hok.out rfl rfl (by kernel_rfl) (fun fr1 w1 hh hg => ?_)
 replace s3 := Stab.O hh s3
 replace s6 := Stab.O hh s6
 have s27 := Tail.got_is 2 7 hg rfl rfl rfl rfl rfl
 obtain ⟨x34, s34, hp34⟩ := Tail.got_use (j := 9) (m := 0) hg rfl rfl rfl rfl rfl
 have hn34 := hp34
 have hf1 := hh.fr hf
 have hx := hh.ext
 replace y0 := cL hx y0
 clear hg hh hf hok s0
 have hf := hf1; clear hf1
 refine Tail.seq_op rfl rfl (fun K Z => ?_)
 go_simp
 go_at_call 27; refine (num29 _ g g _ _ _ _ (hl5.later hx) (by have := hf5.1.size; have := hx.size; omega) [n, ss.length] _ hn34 (by simp) (by intro x hx; simp at hx; rcases hx with rfl | rfl <;> omega) (by simp)).mono ?_; rintro e w6 ⟨rfl, b6, hl6, hf6⟩
 try dsimp only
 apply Z.out; clear Z K
 refine Tail.seq_nil rfl ?_
 refine Fact.q hf (by simp only [Fact.G]) rfl fun fr1 hf1 hT => ?_
 have hKp : _ ∧ _ := ⟨hT 3, hT 6⟩
 simp (decide := true) only [Fact.G, reduceIte, s3, s6] at hKp
 replace hf := hf1; clear hT hf1 s3 s6 s27 s34
 obtain ⟨s3, s6⟩ := hKp
 have hf06 := hf5.trans ((LF.of_below g _ hx).trans hf6)
 have hg6 := hf06.below hgs (Nat.le_refl g) hl3.lo
 have y0b := (hg6.cell (p := ⟨w.heap.size, 0, none⟩) hwg2).trans HY0.out
 clear y0
 replace hrg := hrg.below (below_less hg6 hwg)
 obtain ⟨L0, hL0⟩ : ∃ x, [67, 83, 1] ++ numsB [n, ss.length] = x := ⟨_, rfl⟩
 have hll0 : L0.length ≤ 100 := by rw [← hL0]; have h1 := (numB_le (n := n) (by omega)).2; have h2 := (numB_le (n := ss.length) (by omega)).2; simp [numsB]; omega
 have hl6b : LW w6 g g [.slice A ss.length cc, .int .u64 init] 87 b6 (L0) := by rw [← hL0]; exact hl6
 have HL0 := Lib.hid hL0; clear hL0 hl5 hf5 hl6 hf6 hx3
 refine nx (hK7 _ _ ?_)
 refine Fact.sq fun K8 hK8 => ?_
 refine Fact.sq fun K9 hK9 => ?_
 refine rg ?_
 have b36 := hf.b 36
 have b37 := hf.b 37
 iterate 4 (refine fp fun K Z => ?_; go_simp; apply Z.out; clear Z K)
 refine Fact.z hf fun fr1 hf1 hT => ?_
 have hKp : _ ∧ _ ∧ _ ∧ _ := ⟨hT 3, hT 6, hT 38, hT 39⟩
 simp (decide := true) only [Fact.G, hf.size, reduceIte, s3, s6] at hKp
 replace hf := hf1; clear hT hf1 s3 s6 b36 b37
 obtain ⟨s3, s6, s38, s39⟩ := hKp
 clear y0b
 refine nx (hK9 _ _ ?_)
 refine wp_block ?_
 refine wp_loop_ghost (fun gk fr wr => ∃ (i : Nat) (b1 : Value), gk = ss.length - i ∧ i ≤ ss.length ∧ Fact.Fr 60 fr ∧ fr.tmps[3]? = some (.pointer (some ⟨w.heap.size, 0, none⟩)) ∧ fr.tmps[6]? = some (.pointer (some ⟨g, 0, none⟩)) ∧ fr.tmps[38]? = some (.int .i64 ss.length) ∧ fr.tmps[39]? = some (.int .i64 i) ∧ LW wr g g [.slice A ss.length cc, .int .u64 init] 87 b1 (L0 ++ statesB 0 (ss.take i)) ∧ LF W3 g (.slice none 0 0) wr b1) (ss.length) ?_ ?_
 · (
 exact ⟨0, b6, rfl, Nat.zero_le _, hf, s3, s6, s38, s39, by simpa [statesB] using hl6b, hf06⟩)
 · (
 clear hf s3 s6 s38 s39
 rintro gk fr wr ⟨i, b1, hk, hki, hf, s3, s6, s38, s39, hl7, hf7⟩
 have HK := Lib.hid hk; clear hk
 have hb7 := hf7.below hgs (Nat.le_refl g) hl3.lo
 have hsm := statesB_le HO.out HML.out (by omega : ss.length ≤ 1000000) i
 refine Fact.sq fun K10 hK10 => ?_
 refine rg ?_
 refine fp fun K Z => ?_
 go_simp
 apply Z.out; clear Z K
 refine Fact.z hf fun fr1 hf1 hT => ?_
 have hKp : _ ∧ _ ∧ _ ∧ _ ∧ _ := ⟨hT 3, hT 6, hT 38, hT 39, hT 40⟩
 simp (decide := true) only [Fact.G, hf.size, reduceIte, s3, s6, s38, s39] at hKp
 replace hf := hf1; clear hT hf1 s3 s6 s38 s39
 obtain ⟨s3, s6, s38, s39, s40⟩ := hKp
 refine nx (hK10 _ _ ?_)
 refine Fact.sq fun K11 hK11 => ?_
 refine Fact.cond_s s40 (fun hq => ?_) (fun hq => ?_)
 · (
 have hlt : i < ss.length := by have h9 := of_decide_eq_true hq; omega
 clear hq
 obtain ⟨s, his⟩ : ∃ s, ss[i]? = some s := ⟨_, List.getElem?_eq_getElem hlt⟩
 have hms := mayL_at HML.out his
 rw [Nat.zero_add] at hms
 have hst := statesB_take his
 have HST := Lib.hid hst; have HIS := Lib.hid his; clear hst his
 refine wp_skip ?_
 refine nx (hK11 _ _ ?_)
 refine Fact.sq fun K12 hK12 => ?_
 refine wp_block ?_
 refine Fact.sq fun K13 hK13 => ?_
 refine rg ?_
 have b41 := hf.b 41
 iterate 2 (refine fp fun K Z => ?_; go_simp; apply Z.out; clear Z K)
 refine Fact.z hf fun fr1 hf1 hT => ?_
 have hKp : _ ∧ _ ∧ _ ∧ _ ∧ _ := ⟨hT 3, hT 6, hT 7, hT 38, hT 39⟩
 simp (decide := true) only [Fact.G, hf.size, reduceIte, s3, s6, s38, s39] at hKp
 replace hf := hf1; clear hT hf1 s3 s6 s38 s39 s40 b41
 obtain ⟨s3, s6, s7, s38, s39⟩ := hKp
 refine nx (hK13 _ _ ?_)
 refine rg ?_
 have b42 := hf.b 42
 have b43 := hf.b 43
 iterate 2 (refine fp fun K Z => ?_; go_simp; apply Z.out; clear Z K)
 refine fp fun K Z => ?_
 go_simp
 go_at_call 28; refine (state30 wr w.heap.size g g b1 _ _ init ss hl7 (by have := hf7.1.size; omega) (Nat.le_refl g) hwg (hrg0.out.below (below_less hb7 hwg)) i s HIS.out (HO.out s (List.mem_of_getElem? HIS.out)) hms.1 hms.2 (by omega) (by simp only [List.length_append]; omega)).mono ?_; rintro e w8 ⟨rfl, b8, hl8, hf8⟩
 have hf08 := hf7.trans hf8
 rw [List.append_assoc, ← HST.out] at hl8
 try dsimp only
 apply Z.out; clear Z K
 refine Fact.z hf fun fr1 hf1 hT => ?_
 have hKp : _ ∧ _ ∧ _ ∧ _ := ⟨hT 3, hT 6, hT 38, hT 39⟩
 simp (decide := true) only [Fact.G, reduceIte, s3, s6, s38, s39] at hKp
 replace hf := hf1; clear hT hf1 s3 s6 s7 s38 s39 b42 b43
 obtain ⟨s3, s6, s38, s39⟩ := hKp
 refine Fact.block_normal ?_
 refine nx (hK12 _ _ ?_)
 refine rg ?_
 have b45 := hf.b 45
 refine fp fun K Z => ?_
 go_simp
 try simp (disch := omega) only [Fact.W]
 apply Z.out; clear Z K
 refine fp fun K Z => ?_
 go_simp
 apply Z.out; clear Z K
 refine Fact.z hf fun fr1 hf1 hT => ?_
 have hKp : _ ∧ _ ∧ _ ∧ _ := ⟨hT 3, hT 6, hT 38, hT 39⟩
 simp (decide := true) only [Fact.G, hf.size, reduceIte, s3, s6, s38] at hKp
 replace hf := hf1; clear hT hf1 s3 s6 s38 s39 b45
 obtain ⟨s3, s6, s38, s39⟩ := hKp
 refine Fact.then_normal ?_
 exact ⟨_, by have := HK.out; omega, i + 1, b8, rfl, by omega, hf, s3, s6, s38, by rw [s39]; rfl, hl8, hf08⟩)
 · (
 have hie : i = ss.length := by have h9 := of_decide_eq_false hq; omega
 have hl8 := hl7
 rw [hie, List.take_length] at hl8
 rw [hie, List.take_length] at hsm
 have y1b := (hb7.cell (p := ⟨w.heap.size, 1, none⟩) hwg2).trans HY1.out
 clear hl7 hie hq
 refine wp_exit ?_
 refine Fact.then_exit ?_
 refine Fact.then_exit ?_
 refine Fact.block_exit ?_
 refine nx (hK8 _ _ ?_)
 refine Fact.sq fun K14 hK14 => ?_
 refine Stab.tb 60 fun hok => ?_
 refine Stab.mO 0 s6 hf hok ?_
 apply Stab.tq 1 _ hf hok
 · (
 intro fr1 w1 hh hd hk K Z
 have s46 := Stab.v 0 0 hd hk []
 clear hd
 go_simp
 exact Stab.k Z)
 apply Stab.tq 2 _ hf hok
 · (
 intro fr1 w1 hh hd hk K Z
 have s47 := Stab.v 1 0 hd hk []
 clear hd
 go_simp
 exact Stab.k Z)
 apply Stab.tq 3 _ hf hok
 · (
 intro fr1 w1 hh hd hk K Z
 have s3 := Stab.O hh s3
 clear hd
 go_simp
 exact Stab.k Z)
 apply Stab.tq 4 _ hf hok
 · (
 intro fr1 w1 hh hd hk K Z
 have s49 := Stab.v 3 0 hd hk []
 clear hd
 replace y1b := cL hh.ext y1b
 go_simp
 exact Stab.k Z)
 refine Stab.todo_op (k := 5) (n := 60) (RNs [init]) hf.size hok.out rfl (RNs.stable _) ?_ ?_
 · (
 intro fr1 w1 hh hd hk K Z
 refine Stab.pl ?_
 have s50 := Stab.v 4 0 hd hk []
 clear hd
 go_simp
 exact Z.out _ rfl _ _ ((Below.refl _ _).alloc (Nat.le_refl _) _) (rn_new _ [init] _))
 refine Tail.todo_tail (n := 60) (m := 6) (ws := [(6, 0, [2, 1]), (6, 1, [2]), (6, 3, [5, 4]), (6, 4, [5])]) (by kernel_rfl) hf.size hok.out rfl rfl (by kernel_rfl) (fun fr1 w1 hh hg => ?_)
 replace s6 := Stab.O hh s6
 have s48 := Tail.got_is 2 3 hg rfl rfl rfl rfl rfl
 obtain ⟨x51, s51, hp51⟩ := Tail.got_use (j := 5) (m := 0) hg rfl rfl rfl rfl rfl
 have hn51 := hp51
 have hf1 := hh.fr hf
 have hx := hh.ext
 replace y1b := cL hx y1b
 clear hg hh hf hok s3 s38 s39 s40
 have hf := hf1; clear hf1
 refine Tail.seq_op rfl rfl (fun K Z => ?_)
 go_simp
 go_at_call 27; refine (num29 _ g g _ _ _ _ (hl8.later hx) (by have := hf7.1.size; have := hx.size; omega) [init] _ hn51 (by simp) (by intro x hx; simp at hx; omega) (by simp only [List.length_append]; omega)).mono ?_; rintro e w9 ⟨rfl, b9, hl9, hf9⟩
 try dsimp only
 apply Z.out; clear Z K
 refine Tail.seq_nil rfl ?_
 refine Fact.q hf (by simp only [Fact.G]) rfl fun fr1 hf1 hT => ?_
 have hKp := hT 6
 simp (decide := true) only [Fact.G, reduceIte, s6] at hKp
 replace hf := hf1; clear hT hf1 s6 s48 s51
 have s6 := hKp; clear hKp
 have hf09 := hf7.trans ((LF.of_below g _ hx).trans hf9)
 have hb9 := hf09.below hgs (Nat.le_refl g) hl3.lo
 have hbe := hbz3.trans (below_less hb9 hwg)
 have hbody : bodyB (n : Int).toNat init ss = L0 ++ statesB 0 ss ++ numsB [init] := by unfold bodyB; rw [HNE.out, HL0.out]
 have HBODY := Lib.hid hbody; clear hbody
 have how9 := hl9.2.1
 have u9 := cell_of_row _ _ 0 _ 87 (0, 0) hl9.1
 simp at u9
 have hcv := OB.conv how9
 rw [← HBODY.out] at hcv
 have hbs : (bl (bodyB (n : Int).toNat init ss)).size ≤ 900000000 := by rw [bl_size, HBODY.out]; have h1 := (numB_le (n := init) (by omega)).2; simp only [List.length_append, numsB]; simp; omega
 have hsl : Small (bodyB (n : Int).toNat init ss) := by rw [HNE.out]; exact bodyB_small HO.out HML.out (by omega) (by omega) hinit
 obtain ⟨bb, hbb⟩ : ∃ x, bl (bodyB (n : Int).toNat init ss) = x := ⟨_, rfl⟩
 rw [hbb] at hcv hbs
 have hwb : wl bb = bodyB (n : Int).toNat init ss := by rw [← hbb]; exact wl_bl hsl
 have HWB := Lib.hid hwb; clear hwb hbb hsl
 refine nx (hK14 _ _ ?_)
 refine Fact.sq fun K15 hK15 => ?_
 refine rg ?_
 have b53 := hf.b 53
 have b54 := hf.b 54
 have b55 := hf.b 55
 have b56 := hf.b 56
 have b57 := hf.b 57
 have b58 := hf.b 58
 have b59 := hf.b 59
 iterate 6 (refine fp fun K Z => ?_; go_simp; apply Z.out; clear Z K)
 refine fp fun K Z => ?_
 go_simp
 go_at_call 16; refine (seal17 w9 bb hbs).mono ?_; rintro e w10 ⟨rfl, hb10⟩
 try dsimp only
 apply Z.out; clear Z K
 iterate 2 (refine fp fun K Z => ?_; go_simp; apply Z.out; clear Z K)
 refine Fact.z hf fun fr1 hf1 hT => ?_
 have hKp : _ ∧ _ := ⟨hT 4, hT 5⟩
 simp (decide := true) only [Fact.G, hf.size, reduceIte] at hKp
 replace hf := hf1; clear hT hf1 s6 b53 b54 b55 b56 b57 b58 b59
 obtain ⟨s4, s5⟩ := hKp
 refine nx (hK15 _ _ ?_)
 refine wp_ret ?_
 refine Fact.ret2 rfl hf s4 s5 ⟨?_, hbe.trans (hb10.mono hbe.size)⟩
 unfold putR
 rw [if_pos HM.out, HWB.out]
 rfl)))
set_option maxHeartbeats 4000000 in
set_option maxRecDepth 100000 in
theorem size21 (w : World) (en : Int) (sv : Value) (init : Nat) (ss : List State) (hrs : RS w sv ss) (hok : ∀ s ∈ ss, okS s) (hlen : ss.length ≤ 100000) (hfew : ∀ s ∈ ss, s.arcs.length ≤ 1000) (hinit : init < 18446744073709551616) : Calls Tryz.prog 15 #[.int .i64 en, .agg #[sv, .int .u64 init]] w fun e w1 => e = .returned (.int .i64 ((putR en init ss).1.length : Nat)) ∧ Below w.heap.size w w1 := by
 refine calls_of_wp Tryz.func15 rfl ?_
 refine Fact.en 15 fun fr hf hT => ?_
 have s0 := hT 0 _ rfl
 have s1 := hT 1 _ rfl
 clear hT
 obtain ⟨A, cc, rfl, hcc⟩ := hrs.form
 have HO := Lib.hid hok; have HF := Lib.hid hfew; clear hok hfew
 refine Fact.sq fun K1 hK1 => ?_
 refine rg ?_
 iterate 2 (refine fp fun K Z => ?_; go_simp; apply Z.out; clear Z K)
 refine Fact.z hf fun fr1 hf1 hT => ?_
 have hKp : _ ∧ _ := ⟨hT 0, hT 3⟩
 simp (decide := true) only [Fact.G, hf.size, reduceIte, s0] at hKp
 replace hf := hf1; clear hT hf1 s0 s1
 obtain ⟨s0, s3⟩ := hKp
 obtain ⟨W0, hW0⟩ : ∃ W0, w.alloc (.cells #[.slice A ss.length cc, .int .u64 init] 33) = W0 := ⟨_, rfl⟩
 try rw [hW0]
 obtain ⟨hb0, c0, c1, -, -⟩ := box2 hW0
 clear hW0
 have hr0 := hrs.later hb0
 clear hrs
 refine nx (hK1 _ _ ?_)
 refine Fact.sq fun K2 hK2 => ?_
 refine rg ?_
 have b8 := hf.b 8
 have b9 := hf.b 9
 have b10 := hf.b 10
 have b7 := hf.b 7
 have b11 := hf.b 11
 have b12 := hf.b 12
 iterate 2 (refine fp fun K Z => ?_; go_simp; apply Z.out; clear Z K)
 refine fp fun K Z => ?_
 go_simp
 go_at_call 7; refine (put14 W0 en _ init ss hr0 HO.out hlen HF.out hinit).mono ?_; rintro e w1 ⟨rfl, hb1⟩
 try dsimp only
 apply Z.out; clear Z K
 iterate 5 (refine fp fun K Z => ?_; go_simp; apply Z.out; clear Z K)
 refine Fact.z hf fun fr1 hf1 hT => ?_
 have hKp := hT 5
 simp (decide := true) only [Fact.G, hf.size, reduceIte] at hKp
 replace hf := hf1; clear hT hf1 s0 s3 b8 b9 b10 b7 b11 b12
 have s5 := hKp; clear hKp
 refine nx (hK2 _ _ ?_)
 refine Fact.sq fun K3 hK3 => ?_
 refine rg ?_
 have b13 := hf.b 13
 have b14 := hf.b 14
 refine fp fun K Z => ?_
 go_simp
 apply Z.out; clear Z K
 refine fp fun K Z => ?_
 go_simp
 rw [bl_size]
 apply Z.out; clear Z K
 refine fp fun K Z => ?_
 go_simp
 apply Z.out; clear Z K
 refine Fact.z hf fun fr1 hf1 hT => ?_
 have hKp := hT 4
 simp (decide := true) only [Fact.G, hf.size, reduceIte] at hKp
 replace hf := hf1; clear hT hf1 s5 b13 b14
 have s4 := hKp; clear hKp
 refine nx (hK3 _ _ ?_)
 refine wp_ret ?_
 exact Fact.ret1 rfl hf s4 ⟨rfl, hb0.trans (hb1.mono hb0.size)⟩
end Dw
end Go.Proofs.YtdkbgbdgmihlmaaGreatDoor
