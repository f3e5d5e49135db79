/- pack: Put, Size. -/
import Derived.Test.YtcddnmhmcieebaaGreatDoorY13
import Derived.Test.YtcddnmhmcieebaaGreatDoorY12
import Derived.Test.YtcddnmhmcieebaaGreatDoorTools
import Derived.WalkSmall
import Derived.Laws.BitsAllLaws
namespace Go.Proofs.YtcddnmhmcieebaaGreatDoor
set_option maxHeartbeats 4000000
set_option maxRecDepth 100000
open Go.RowKit
set_option linter.unusedSimpArgs false
set_option linter.unusedVariables false
set_option linter.unnecessarySimpa false
namespace Dw
def statesB : Nat -> List State -> List Nat
 | _, [] => []
 | i, s :: l => stB i s ++ statesB (i + 1) l
def bodyB (en : Nat) (init : Nat) (ss : List State) : List Nat := [67, 83, 1] ++ numsB [en, ss.length] ++ statesB 0 ss ++ numsB [init]
def putR (en : Int) (init : Nat) (ss : List State) : List Nat × Nat := if mayF en ss then (Crc.seal' (bodyB en.toNat init ss), 0) else ([], 2)
theorem may_out {en : Int} {ss : List State} (h : mayF en ss = true) : 0 <= en /\ en <= 100000 /\ 0 < ss.length /\ mayL 0 ss = true := by
 unfold mayF at h
 simp at h
 exact ⟨h.1.1.1, h.1.1.2, by omega, h.2⟩
theorem mayL_at : ∀ {l : List State} {k i : Nat} {s : State}, mayL k l = true -> l[i]? = some s -> s.arcs.length <= 256 /\ ∀ a ∈ s.arcs, 0 <= a.to /\ a.to < ((k + i : Nat) : Int)
 | s :: l, k, 0, x, h, hi => by
  simp only [List.getElem?_cons_zero, Option.some.injEq] at hi
  subst hi
  simp only [mayL, Bool.and_eq_true, decide_eq_true_eq] at h
  refine ⟨h.1.1.1, ?_⟩
  have key : ∀ l : List Arc, okTo k l = true -> ∀ a ∈ l, 0 <= a.to /\ a.to < (k : Int) := by
   intro l
   induction l with
   | nil => intro _ a ha; cases ha
   | cons b l ih =>
    intro h1 a ha
    simp only [okTo, Bool.and_eq_true, decide_eq_true_eq] at h1
    rcases List.mem_cons.1 ha with rfl | ha
    ·exact h1.1
    ·exact ih h1.2 a ha
  exact key _ h.1.2
 | s :: l, k, i + 1, x, h, hi => by
  simp only [mayL, Bool.and_eq_true] at h
  have h9 := mayL_at (i := i) (s := x) h.2 (by simpa using hi)
  rw [show k + (i + 1) = k + 1 + i by omega]
  exact h9
theorem statesB_append : ∀ (a b : List State) (k : Nat), statesB k (a ++ b) = statesB k a ++ statesB (k + a.length) b
 | [], b, k => by simp [statesB]
 | s :: a, b, k => by
  simp only [List.cons_append, statesB, List.length_cons]
  rw [statesB_append a b (k + 1), List.append_assoc, show k + 1 + a.length = k + (a.length + 1) by omega]
theorem statesB_take {l : List State} {i : Nat} {s : State} (h : l[i]? = some s) : statesB 0 (l.take (i + 1)) = statesB 0 (l.take i) ++ stB i s := by
 have hl := (gS1 h).1
 rw [List.take_add_one, h, statesB_append]
 simp [statesB]
 congr 1
 omega
theorem stB_le {i : Nat} {s : State} (h : okS s) (h2 : s.arcs.length <= 256) (hi : i <= 1000000) : (stB i s).length <= 4882 := by
 have h1 := headB_le h.1 (by omega)
 have h3 := arcsB_len hi s.arcs h.2.2
 unfold stB
 simp only [List.length_append]
 omega
theorem statesB_len : ∀ (l : List State) (k : Nat), (∀ s ∈ l, okS s) -> mayL k l = true -> k + l.length <= 1000000 -> (statesB k l).length <= 4882 * l.length
 | [], _, _, _, _ => by simp [statesB]
 | s :: l, k, h, hm, hk => by
  have h1 := mayL_at (i := 0) hm rfl
  simp only [mayL, Bool.and_eq_true] at hm
  simp only [List.length_cons] at hk
  have h2 := stB_le (i := k) (h s (List.mem_cons_self ..)) h1.1 (by omega)
  have h3 := statesB_len l (k + 1) (fun x hx => h x (List.mem_cons_of_mem _ hx)) hm.2 (by omega)
  simp only [statesB, List.length_append, List.length_cons]
  omega
theorem mayL_take : ∀ (l : List State) (k i : Nat), mayL k l = true -> mayL k (l.take i) = true
 | _, _, 0, _ => by simp [mayL]
 | [], _, i + 1, _ => by simp [mayL]
 | s :: l, k, i + 1, h => by
  simp only [mayL, Bool.and_eq_true, List.take_succ_cons] at h |-
  exact ⟨h.1, mayL_take l (k + 1) i h.2⟩
theorem statesB_le {l : List State} (h : ∀ s ∈ l, okS s) (hm : mayL 0 l = true) (hk : l.length <= 1000000) (i : Nat) : (statesB 0 (l.take i)).length <= 4882 * l.length := by
 have h2 : (l.take i).length <= l.length := by simp; omega
 have h1 := statesB_len (l.take i) 0 (fun s hs => h s (List.mem_of_mem_take hs)) (mayL_take l 0 i hm) (by omega)
 omega
theorem arcsB_small {i : Nat} (hi : i <= 1000000) {l : List Arc} (h : ∀ a ∈ l, okA a) : Small (arcsB i l) := fun x hx => by
 obtain ⟨a, ha, hx⟩ := List.mem_flatMap.1 hx
 have h1 := h a ha
 rcases List.mem_cons.1 hx with rfl | hx
 ·exact h1.1
 ·exact numsB_small (by intro y hy; simp at hy; have := h1.2.1; unfold M64; rcases hy with rfl | rfl <;> omega) x hx
theorem stB_small {i : Nat} {s : State} (h : okS s) (h2 : s.arcs.length <= 256) (hi : i <= 1000000) : Small (stB i s) := by
 refine Small.append ?_ (arcsB_small hi h.2.2)
 refine numsB_small (fun y hy => ?_)
 have := h.1
 unfold M64
 split at hy <;> simp at hy <;> (try rcases hy with rfl | rfl) <;> omega
theorem statesB_small : ∀ (l : List State) (k : Nat), (∀ s ∈ l, okS s) -> mayL k l = true -> k + l.length <= 1000000 -> Small (statesB k l)
 | [], _, _, _, _ => Small.nil
 | s :: l, k, h, hm, hk => by
  have h1 := mayL_at (i := 0) hm rfl
  simp only [mayL, Bool.and_eq_true] at hm
  simp only [List.length_cons] at hk
  exact (stB_small (h s (List.mem_cons_self ..)) h1.1 (by omega)).append (statesB_small l (k + 1) (fun x hx => h x (List.mem_cons_of_mem _ hx)) hm.2 (by omega))
theorem bodyB_small {n init : Nat} {ss : List State} (h : ∀ s ∈ ss, okS s) (hm : mayL 0 ss = true) (hl : ss.length <= 100000) (hn : n <= 100000) (hi : init < 18446744073709551616) : Small (bodyB n init ss) := by
 refine ((Small.append (by intro x hx; simp at hx; omega) (numsB_small (by intro y hy; simp at hy; unfold M64; rcases hy with rfl | rfl <;> omega))).append (statesB_small ss 0 h hm (by omega))).append (numsB_small (by intro y hy; simp at hy; unfold M64; omega))
theorem put14 (w : World) (en : Int) (sv : Value) (init : Nat) (ss : List State) (hrs : RS w sv ss) (hok : ∀ s ∈ ss, okS s) (hlen : ss.length <= 100000) (hfew : ∀ s ∈ ss, s.arcs.length <= 1000) (hinit : init < 18446744073709551616) : Calls Tryz.prog 14 #[.int .i64 en, .agg #[sv, .int .u64 init]] w fun e w1 => e = .returned (.tuple #[.string (bl (putR en init ss).1), .int .i64 (putR en init ss).2]) /\ Below w.heap.size w w1 := by
 refine Zn2 60 Tryz.func14 fun fr hf s0 s1 => ?_
 have hrn := hrs.n
 obtain ⟨A, cc, rfl, hcc⟩ := hrs.form
 have HO := Lib.hid hok; have HF := Lib.hid hfew; clear hok hfew
 have hM : M64 = 18446744073709551616 := rfl
 have hrs1 := hrs
 refine Ze fun _ hK1 => Zr [] hf ?_
 refine Zq2 0 3 hf ?_
 clear hf s0 s1; intro fr1 hf sS
 generalize hW0 : w.alloc (.cells #[.slice A ss.length cc, .int .u64 init] 38) = W0
 obtain ⟨hb0, c0, c1, -, hz0_⟩ := box2 hW0
 clear hW0
 have hz0 : w.heap.size < W0.heap.size := by rw [hz0_]; exact Nat.lt_succ_self _
 clear hz0_
 have hr0 := hrs.later hb0
 clear hrs
 refine Zs hK1 fun _ hK2 => Ze fun _ hK3 => rg ?_
 have bB := hf.B3 8 9 10
 iterate 2 refine Zy ?_
 refine Zc (may28 W0 en _ init ss hr0 HO.out (by omega) HF.out) ?_; rintro e w1 ⟨rfl, hb1⟩
 refine Zv ?_
 refine Zy ?_
 refine Fact.nil (Zq3 0 3 11 hf ?_)
 clear hf sS bB; intro fr1 hf sS
 have e0 := cL hb1 c0
 have e1 := cL hb1 c1
 have hbz := hb0.trans (hb1.mono hb0.size)
 clear c0 c1 hr0
 refine Zx hK3 ?_
 rcases hmy : mayF en ss with _ | _
 . (
 have HM := Lib.hid hmy
 obtain ⟨s0, s3, s11⟩ := sS
 rw [hmy] at s11
 simp only [Bool.not_false, Bool.not_true] at s11
 clear hmy
 refine Fact.cond_t s11 ?_
 refine Ze fun _ hK4 => Zr [] hf ?_
 refine Zq2 4 5 hf ?_
 clear hf s0 s3 s11; intro fr1 hf sS
 refine Zx hK4 (Zret ?_)
 exact Fact.ret2 rfl hf sS.1 sS.2 ⟨by unfold putR; rw [HM.out]; rfl, hbz⟩)
 . (
 have HM := Lib.hid hmy
 obtain ⟨s0, s3, s11⟩ := sS
 rw [hmy] at s11
 simp only [Bool.not_false, Bool.not_true] at s11
 clear hmy
 refine Fact.cond_f s11 ?_
 obtain ⟨he0, he1, hs0, hml⟩ := may_out HM.out
 obtain ⟨n, hn⟩ : ∃ n : Nat, en = (n : Int) := ⟨en.toNat, by omega⟩
 subst hn
 have hrw := hrn.below hbz
 have HML := Lib.hid hml; clear hml hrn hrs1
 have hen : n <= 100000 := by omega
 have HNE := Lib.hid (show (n : Int).toNat = n by omega)
 clear he0 he1
 refine wp_skip (Zs hK2 fun _ hK5 => Zr [12, 13, 14] hf ?_)
 refine Zq3 0 3 6 hf ?_
 clear hf s0 s3 s11; intro fr1 hf sS
 obtain ⟨g, hg⟩ : ∃ x, w1.heap.size = x := ⟨_, rfl⟩
 generalize hW3 : w1.alloc (.cells #[.slice none 0 0, .slice A ss.length cc, .int .u64 init] 91) = W3
 obtain ⟨s0, s3, s6⟩ := sS
 try rw [hg] at s6
 have hb3 : Below w1.heap.size w1 W3 := by rw [<- hW3]; exact (Below.refl _ _).alloc (Nat.le_refl _) _
 have hx3 : W3.heap[g]? = some (.cells #[.slice none 0 0, .slice A ss.length cc, .int .u64 init] 91 (0, 0)) := by rw [<- hW3, <- hg]; exact heap_alloc_new w1 _
 have hg3 : g < W3.heap.size := heap_lt hx3
 have hl3 : LW W3 g g [.slice A ss.length cc, .int .u64 init] 91 (.slice none 0 0) [] := ⟨hx3, OB.nil_ _ _, by intro e; cases e⟩
 have y0 := cL hb3 e0; have y1 := cL hb3 e1
 have hrg := hrw.below ((hb3.mono hbz.size) : Below w.heap.size w1 W3)
 have hwg : w.heap.size <= g := by rw [<- hg]; exact hbz.size
 have hwg2 : w.heap.size < g := by rw [<- hg]; have := hb1.size; omega
 have hgs := Nat.le_of_lt hg3
 have hbz3 := hbz.trans (hb3.mono hbz.size)
 clear hW3 hg e0 e1 hrw hb3
 have hrg0 := Lib.hid hrg
 have HY1 := Lib.hid y1; clear y1
 refine Zt hK5 fun _ hK6 => ?_
 have bB := hf.B10 15 16 17 18 19 20 21 22 23 24
 iterate 5 refine Zy ?_
 have u0 := cR1 0 hx3
 simp at u0
 refine Zy ?_
 clear bB
 refine Fact.reL (n := 60) (by simp only [Fact.G, hf.size]) hf.defers (fun fr1 hf1 hT => ?_)
 have hKp := Fact.h5 hT 0 3 6 15 20
 simp (decide := true) only [Fact.G, hf.size, reduceIte, s0, s3, s6] at hKp
 replace hf := hf1; clear hT hf1 s0 s3 s6
 obtain ⟨s0, s3, s6, s15, s20⟩ := hKp
 have bB := hf.B4 21 22 23 24
 refine ⟨?_⟩
 refine wpList_plain rfl fun KL hKL => ?_
 refine wp_appstr _ _ rfl g (.slice none 0 0) [] (Fact.eval_tmp s20) hl3.2.1 (bl [67, 83, 1]) (by rw [show bl [67, 83, 1] = ⟨#[67, 83, 1]⟩ by decide]; rfl) (by rw [bl_size]; simp) (by omega) (fun v4 w4 hr4 hg4 hat4 => hKL _ _ ?_)
 rw [wl_bl (by intro x hx; simp at hx; omega), List.nil_append] at hr4
 refine Fact.L.out ?_
 iterate 3 refine Zy ?_
 have hx4 := (hg4.block g hg3 (by intro e; cases e)).trans hx3
 have u1 := cR1 0 hx4
 simp at u1
 have fz := frozen_of (i := 0) hx4
 obtain ⟨A9, c9, hv9, _⟩ := row_form hr4
 rw [show ([67, 83, 1] : List Nat).length = 3 from rfl] at hv9
 subst hv9
 refine Zy ?_
 refine Fact.nil (Zq3 0 3 6 hf ?_)
 clear hf s0 s3 s6 s15 s20 bB; intro fr1 hf sS
 obtain ⟨hl5, hf5⟩ := hl3.step (Below.refl _ _) hr4 hg4 hat4 (Nat.le_refl _)
 generalize hW5 : w4.setCell ⟨g, 0, none⟩ (.slice A9 3 c9) = W5
 rw [hW5] at hl5 hf5
 have HY0 := Lib.hid y0
 replace y0 := ((hf5.below hgs (Nat.le_refl g) hl3.lo).cell (p := ⟨w.heap.size, 0, none⟩) hwg2).trans HY0.out
 refine Zs hK6 fun _ hK7 => ?_
 obtain ⟨s0, s3, s6⟩ := sS
 refine Stab.tb 60 fun hok => ?_
 refine Stab.mO 0 s6 hf hok ?_
 refine Stab.T 1 hf hok (fun _ _ h d => Stab.vd 0 0 d []) ?_
 refine Stab.T 2 hf hok (fun _ _ h d => Stab.vd 1 0 d []) ?_
 refine Stab.mO 3 s0 hf hok ?_
 apply Stab.tq 4 _ hf hok
 . (
 intro fr1 w1 hh hd hk K Z
 have s28 := Stab.v 3 0 hd hk []
 clear hd
 go_simp
 try simp (disch := omega) only [Fact.wrap_u64]
 exact Stab.k Z)
 refine Stab.T 5 hf hok (fun _ _ h d => Stab.O h s3) ?_
 refine Stab.T 6 hf hok (fun _ _ h d => ad (Stab.vd 5 0 d []) (cL h.ext y0)) ?_
 refine Stab.T 7 hf hok (fun _ _ h d => ad (Stab.vd 6 0 d []) (cL h.ext y0)) ?_
 apply Stab.tq 8 _ hf hok
 . (
 intro fr1 w1 hh hd hk K Z
 have s32 := Stab.v 7 0 hd hk []
 clear hd
 go_simp
 try simp (disch := omega) only [Fact.wrap_u64]
 exact Stab.k Z)
 refine Stab.todo_op (k := 9) (n := 60) (RNs [n, ss.length]) hf.size hok.out rfl (RNs.stable _) ?_ ?_
 . (
 intro fr1 w1 hh hd hk K Z
 refine Stab.pl ?_
 have s29 := Stab.v 4 4 hd hk []
 have s33 := Stab.v 8 0 hd hk []
 clear hd
 go_simp
 exact Z.out _ rfl _ _ ((Below.refl _ _).alloc (Nat.le_refl _) _) (rn_new _ [n, ss.length] _))
 refine Tail.todo_tail (n := 60) (m := 10) (ws := [(10, 0, [2, 1]), (10, 1, [2]), (10, 3, [9, 4]), (10, 4, [9]), (10, 5, [9, 8, 7, 6]), (10, 6, [9, 8, 7]), (10, 7, [9, 8]), (10, 8, [9])]) (by kernel_rfl) hf.size hok.out rfl rfl (by kernel_rfl) (fun fr1 w1 hh hg => ?_)
 replace s3 := Stab.O hh s3
 replace s6 := Stab.O hh s6
 have s27 := Tail.got_is 2 7 hg rfl rfl rfl rfl rfl
 obtain ⟨x34, s34, hp34⟩ := Tail.got_use (j := 9) (m := 0) hg rfl rfl rfl rfl rfl
 have hn34 := hp34
 have hf1 := hh.fr hf
 have hx := hh.ext
 replace y0 := cL hx y0
 clear hg hh hf hok s0
 have hf := hf1; clear hf1
 refine Tail.seq_op rfl rfl (fun K Z => ?_)
 go_simp
 go_at_call 35; refine (num29 _ g g _ _ _ _ (hl5.later hx) (by have := hf5.1.size; have := hx.size; omega) [n, ss.length] _ hn34 (by simp) (by intro x hx; simp at hx; rcases hx with rfl | rfl <;> omega) (by simp)).mono ?_; rintro e w6 ⟨rfl, b6, hl6, hf6⟩
 try dsimp only
 apply Z.out; clear Z K
 refine Tail.seq_nil rfl ?_
 refine Zq2 3 6 hf ?_
 clear hf s3 s6 s27 s34; intro fr1 hf sS
 have hf06 := hf5.trans ((LF.of_below g _ hx).trans hf6)
 have hg6 := hf06.below hgs (Nat.le_refl g) hl3.lo
 have y0b := (hg6.cell (p := ⟨w.heap.size, 0, none⟩) hwg2).trans HY0.out
 clear y0
 replace hrg := hrg.below (below_less hg6 hwg)
 obtain ⟨L0, hL0⟩ : ∃ x, [67, 83, 1] ++ numsB [n, ss.length] = x := ⟨_, rfl⟩
 have hll0 : L0.length <= 100 := by rw [<- hL0]; have h1 := (numB_le (n := n) (by omega)).2; have h2 := (numB_le (n := ss.length) (by omega)).2; simp [numsB]; omega
 have hl6b : LW w6 g g [.slice A ss.length cc, .int .u64 init] 91 b6 (L0) := by rw [<- hL0]; exact hl6
 have HL0 := Lib.hid hL0; clear hL0 hl5 hf5 hl6 hf6 hx3
 refine Zs hK7 fun _ hK8 => Ze fun _ hK9 => Zr [36, 37] hf ?_
 refine Zq4 3 6 38 39 hf ?_
 clear hf sS; intro fr1 hf sS
 clear y0b
 refine Zx hK9 (wp_block (wp_loop_ghost (fun gk fr wr => ∃ (i : Nat) (b1 : Value), gk = ss.length - i /\ i <= ss.length /\ Fact.Fr 60 fr /\ fr.tmps[3]? = some (.pointer (some ⟨w.heap.size, 0, none⟩)) /\ fr.tmps[6]? = some (.pointer (some ⟨g, 0, none⟩)) /\ fr.tmps[38]? = some (.int .i64 ss.length) /\ fr.tmps[39]? = some (.int .i64 i) /\ LW wr g g [.slice A ss.length cc, .int .u64 init] 91 b1 (L0 ++ statesB 0 (ss.take i)) /\ LF W3 g (.slice none 0 0) wr b1) (ss.length) ?_ ?_))
 . (
 obtain ⟨s3, s6, s38, s39⟩ := sS
 exact ⟨0, b6, rfl, Nat.zero_le _, hf, s3, s6, s38, s39, by simpa [statesB] using hl6b, hf06⟩)
 . (
 clear hf sS
 rintro gk fr wr ⟨i, b1, hk, hki, hf, s3, s6, s38, s39, hl7, hf7⟩
 have HK := Lib.hid hk; clear hk
 have hb7 := hf7.below hgs (Nat.le_refl g) hl3.lo
 have hsm := statesB_le HO.out HML.out (by omega : ss.length <= 1000000) i
 refine Ze fun _ hK10 => Zr [] hf ?_
 refine Zq5 3 6 38 39 40 hf ?_
 clear hf s3 s6 s38 s39; intro fr1 hf sS
 refine Zs hK10 fun _ hK11 => Fact.cond_s sS.2.2.2.2 (fun hq => ?_) (fun hq => ?_)
 . (
 have hlt : i < ss.length := by have h9 := of_decide_eq_true hq; omega
 clear hq
 obtain ⟨s, his⟩ : ∃ s, ss[i]? = some s := ⟨_, gE1 hlt⟩
 have hms := mayL_at HML.out his
 rw [Nat.zero_add] at hms
 have hst := statesB_take his
 have HST := Lib.hid hst; have HIS := Lib.hid his; clear hst his
 refine wp_skip (Zs hK11 fun _ hK12 => wp_block (Ze fun _ hK13 => Zr [41] hf ?_))
 refine Zq5 3 6 7 38 39 hf ?_
 clear hf sS; intro fr1 hf sS
 refine Zx hK13 (rg ?_)
 obtain ⟨b42, b43⟩ := hf.B2 42 43
 iterate 2 refine Zy ?_
 refine fp fun K Z => ?_
 go_simp
 go_at_call 36; refine (state30 wr w.heap.size g g b1 _ _ init ss hl7 (by have := hf7.1.size; omega) (Nat.le_refl g) hwg (hrg0.out.below (below_less hb7 hwg)) i s HIS.out (HO.out s (gM1 HIS.out)) hms.1 hms.2 (by omega) (by simp only [List.length_append]; omega)).mono ?_; rintro e w8 ⟨rfl, b8, hl8, hf8⟩
 have hf08 := hf7.trans hf8
 rw [List.append_assoc, <- HST.out] at hl8
 try dsimp only
 apply Z.out; clear Z K
 refine Fact.nil (Zq4 3 6 38 39 hf ?_)
 clear hf sS b42 b43; intro fr1 hf sS
 refine Fact.block_normal (Zx hK12 (Zr [45] hf ?_))
 refine Zq4 3 6 38 39 hf ?_
 clear hf sS; intro fr1 hf sS
 refine Fact.then_normal ?_
 obtain ⟨s3, s6, s38, s39⟩ := sS
 exact ⟨_, by have := HK.out; omega, i + 1, b8, rfl, by omega, hf, s3, s6, s38, by rw [s39]; rfl, hl8, hf08⟩)
 . (
 have hie : i = ss.length := by have h9 := of_decide_eq_false hq; omega
 have hl8 := hl7
 rw [hie, List.take_length] at hl8
 rw [hie, List.take_length] at hsm
 have y1b := (hb7.cell (p := ⟨w.heap.size, 1, none⟩) hwg2).trans HY1.out
 clear hl7 hie hq
 refine Zo ?_
 refine Zs hK8 fun _ hK14 => ?_
 obtain ⟨s3, s6, s38, s39, s40⟩ := sS
 refine Stab.tb 60 fun hok => ?_
 refine Stab.mO 0 s6 hf hok ?_
 refine Stab.T 1 hf hok (fun _ _ h d => Stab.vd 0 0 d []) ?_
 refine Stab.T 2 hf hok (fun _ _ h d => Stab.vd 1 0 d []) ?_
 refine Stab.T 3 hf hok (fun _ _ h d => Stab.O h s3) ?_
 refine Stab.T 4 hf hok (fun _ _ h d => ad (Stab.vd 3 0 d []) (cL h.ext y1b)) ?_
 refine Stab.todo_op (k := 5) (n := 60) (RNs [init]) hf.size hok.out rfl (RNs.stable _) ?_ ?_
 . (
 intro fr1 w1 hh hd hk K Z
 refine Stab.pl ?_
 have s50 := Stab.v 4 0 hd hk []
 clear hd
 go_simp
 exact Z.out _ rfl _ _ ((Below.refl _ _).alloc (Nat.le_refl _) _) (rn_new _ [init] _))
 refine Tail.todo_tail (n := 60) (m := 6) (ws := [(6, 0, [2, 1]), (6, 1, [2]), (6, 3, [5, 4]), (6, 4, [5])]) (by kernel_rfl) hf.size hok.out rfl rfl (by kernel_rfl) (fun fr1 w1 hh hg => ?_)
 replace s6 := Stab.O hh s6
 have s48 := Tail.got_is 2 3 hg rfl rfl rfl rfl rfl
 obtain ⟨x51, s51, hp51⟩ := Tail.got_use (j := 5) (m := 0) hg rfl rfl rfl rfl rfl
 have hn51 := hp51
 have hf1 := hh.fr hf
 have hx := hh.ext
 replace y1b := cL hx y1b
 clear hg hh hf hok s3 s38 s39 s40
 have hf := hf1; clear hf1
 refine Tail.seq_op rfl rfl (fun K Z => ?_)
 go_simp
 go_at_call 35; refine (num29 _ g g _ _ _ _ (hl8.later hx) (by have := hf7.1.size; have := hx.size; omega) [init] _ hn51 (by simp) (by intro x hx; simp at hx; omega) (by simp only [List.length_append]; omega)).mono ?_; rintro e w9 ⟨rfl, b9, hl9, hf9⟩
 try dsimp only
 apply Z.out; clear Z K
 refine Tail.seq_nil rfl ?_
 refine Zq1 6 hf ?_
 clear hf s6 s48 s51; intro fr1 hf s6
 have hf09 := hf7.trans ((LF.of_below g _ hx).trans hf9)
 have hb9 := hf09.below hgs (Nat.le_refl g) hl3.lo
 have hbe := hbz3.trans (below_less hb9 hwg)
 have hbody : bodyB (n : Int).toNat init ss = L0 ++ statesB 0 ss ++ numsB [init] := by unfold bodyB; rw [HNE.out, HL0.out]
 have HBODY := Lib.hid hbody; clear hbody
 have how9 := hl9.2.1
 have u9 := cR1 0 hl9.1
 simp at u9
 have hcv := OB.conv how9
 rw [<- HBODY.out] at hcv
 have hbs : (bl (bodyB (n : Int).toNat init ss)).size <= 900000000 := by rw [bl_size, HBODY.out]; have h1 := (numB_le (n := init) (by omega)).2; simp only [List.length_append, numsB]; simp; omega
 have hsl : Small (bodyB (n : Int).toNat init ss) := by rw [HNE.out]; exact bodyB_small HO.out HML.out (by omega) (by omega) hinit
 obtain ⟨bb, hbb⟩ : ∃ x, bl (bodyB (n : Int).toNat init ss) = x := ⟨_, rfl⟩
 rw [hbb] at hcv hbs
 have hwb : wl bb = bodyB (n : Int).toNat init ss := by rw [<- hbb]; exact wl_bl hsl
 have HWB := Lib.hid hwb; clear hwb hbb hsl
 refine Zt hK14 fun _ hK15 => ?_
 have bB := hf.B7 53 54 55 56 57 58 59
 iterate 6 refine Zy ?_
 refine Zc (seal17 w9 bb hbs) ?_; rintro e w10 ⟨rfl, hb10⟩
 refine Zv ?_
 iterate 2 refine Zy ?_
 refine Fact.nil (Zq2 4 5 hf ?_)
 clear hf s6 bB; intro fr1 hf sS
 refine Zx hK15 (Zret ?_)
 refine Fact.ret2 rfl hf sS.1 sS.2 ⟨?_, hbe.trans (hb10.mono hbe.size)⟩
 unfold putR
 rw [if_pos HM.out, HWB.out]
 rfl)))
def Pan (w w1 : World) (e : Ending) (code at_ : Int) : Prop := ∃ q, e = .panicked [{ v := .iface 77 (.pointer (some ⟨q, 0, none⟩)), recovered := false }] /\ w.heap.size <= q /\ w1.heap[q]? = some (.cells #[.int .i64 code, .int .i64 at_] 134 (0, 0)) /\ Below w.heap.size w w1
theorem pan9 {P : Program} {fn : Func} {R : Ending -> World -> Prop} {c : List PanicEntry} {a : Act} {w : World} (hd : a.defers = []) (hR : R (.panicked c) w) : bodyPost P fn R (.panic c) a w := ⟨hd, hR⟩
theorem bad33 (w : World) (code at_ : Int) : Calls Tryz.prog 32 #[.int .i64 code, .int .i64 at_] w fun e w1 => Pan w w1 e code at_ := by
 refine Zn2 9 Tryz.func32 fun fr hf s0 s1 => ?_
 refine rg ?_
 have bB := hf.B5 4 5 6 7 8
 iterate 5 refine Zy ?_
 refine fp fun K Z => ?_
 go_simp
 refine pan9 hf.defers ?_
 exact ⟨w.heap.size, rfl, Nat.le_refl _, heap_alloc_new w _, (Below.refl _ _).alloc (Nat.le_refl _) _⟩
theorem getN_over {s : List Nat} {i : Nat} (h : s.length <= i) : getN s i = (0, i, 3) := by
 unfold getN
 rw [List.getElem?_eq_none h]
theorem getN_small {s : List Nat} {i c : Nat} (h : s[i]? = some c) (h8 : c < 248) : getN s i = (c, i + 1, 0) := by
 unfold getN
 rw [h]
 simp only
 rw [if_pos h8]
theorem getN_short {s : List Nat} {i c : Nat} (h : s[i]? = some c) (h8 : ¬ c < 248) (h7 : s.length - i <= c - 247) : getN s i = (0, i, 3) := by
 unfold getN
 rw [h]
 simp only
 rw [if_neg h8, if_pos h7]
theorem getN_form {s : List Nat} {i c : Nat} (h : s[i]? = some c) (h8 : ¬ c < 248) (h7 : ¬ s.length - i <= c - 247) (h6 : ¬ (numB (ofLe ((s.drop (i + 1)).take (c - 247)))).length = 1 + (c - 247)) : getN s i = (0, i, 5) := by
 unfold getN
 rw [h]
 simp only
 rw [if_neg h8, if_neg h7, if_neg h6]
theorem getN_big {s : List Nat} {i c : Nat} (h : s[i]? = some c) (h8 : ¬ c < 248) (h7 : ¬ s.length - i <= c - 247) (h6 : (numB (ofLe ((s.drop (i + 1)).take (c - 247)))).length = 1 + (c - 247)) : getN s i = (ofLe ((s.drop (i + 1)).take (c - 247)), i + 1 + (c - 247), 0) := by
 unfold getN
 rw [h]
 simp only
 rw [if_neg h8, if_neg h7, if_pos h6]
theorem ofLe_take (s : ByteArray) (i k : Nat) : ofLe (((wl s).drop i).take k) < 256 ^ k := by
 refine Nat.lt_of_lt_of_le (ofLe_lt _ (fun x hx => wl_lt s x (List.mem_of_mem_drop (List.mem_of_mem_take hx)))) (Nat.pow_le_pow_right (by omega) ?_)
 simp
 omega
theorem ofLe_64 (s : ByteArray) (i : Nat) {k : Nat} (h : k <= 8) : ofLe (((wl s).drop i).take k) < M64 :=
 Nat.lt_of_lt_of_le (ofLe_take s i k) (Nat.pow_le_pow_right (by omega) h)
theorem shl_cut {d k : Nat} (hd : d < 256) (hk : k <= 7) : IntKind.u64.wrap ((d : Int) * 2 ^ (8 * (k : Int)).toNat) = ((256 ^ k * d : Nat) : Int) := by
 have h1 : 256 ^ k <= 256 ^ 7 := Nat.pow_le_pow_right (by omega) hk
 have h2 : 256 ^ k * d <= 256 ^ 7 * 255 := Nat.mul_le_mul h1 (by omega)
 have e : (d : Int) * 2 ^ (8 * (k : Int)).toNat = ((256 ^ k * d : Nat) : Int) := by
  rw [show (8 * (k : Int)).toNat = 8 * k by omega, show (2 : Int) ^ (8 * k) = ((256 ^ k : Nat) : Int) by rw [pow256]; norm_cast, Nat.mul_comm]
  exact (Int.natCast_mul _ _).symm
 rw [e]
 exact Fact.wrap_u64 (by omega) (by omega)
theorem shl_lt {d k : Nat} (hd : d < 256) (hk : k <= 7) : 256 ^ k * d < 18446744073709551616 := by
 have h1 : 256 ^ k <= 256 ^ 7 := Nat.pow_le_pow_right (by omega) hk
 have h2 : 256 ^ k * d <= 256 ^ 7 * 255 := Nat.mul_le_mul h1 (by omega)
 omega
theorem or_add {n d k : Nat} (h : n < 256 ^ k) : n ||| (256 ^ k * d) = n + 256 ^ k * d := by
 rw [pow256] at h |-
 rw [Nat.or_comm, <- Nat.two_pow_add_eq_or_of_lt h, Nat.add_comm]
theorem ofLe_step {l : List Nat} {i k d : Nat} (h : l[i + 1 + k]? = some d) : ofLe ((l.drop (i + 1)).take k) + 256 ^ k * d = ofLe ((l.drop (i + 1)).take (k + 1)) := by
 have h1 : (l.drop (i + 1))[k]? = some d := by rw [List.getElem?_drop]; exact h
 have hl := (gS1 h1).1
 rw [List.take_add_one, h1, Option.toList_some, ofLe_snoc, List.length_take, Nat.min_eq_left (by omega)]
theorem get72 (w : World) (s : ByteArray) (i : Nat) (hi : i <= s.size) (hsz : s.size <= 1000000000) : Calls Tryz.prog 98 #[.string s, .int .i64 i] w fun e w1 => e = .returned (.tuple #[.int .u64 (getN (wl s) i).1, .int .i64 (getN (wl s) i).2.1, .int .i64 (getN (wl s) i).2.2]) /\ Below w.heap.size w w1 := by
 refine Zn2 67 Tryz.func98 fun fr hf s0 s1 => ?_
 have hat2 : ∀ (i : Nat) (h : i < s.size), s[i].toNat = at_ s i := fun i h => (at_get h).symm
 have q0 : decide ((i : Int) < 0) = false := decide_eq_false (by omega)
 refine Ze fun _ hK1 => Zr [] hf ?_
 refine Zq3 0 1 4 hf ?_
 clear hf s0 s1; intro fr1 hf sS
 refine Zx hK1 ?_
 rcases Nat.lt_or_ge i s.size with hlt | hge
 . (
 have q1 : decide (s.size <= i) = false := decide_eq_false (by omega)
 refine Ze fun _ hK2 => Ze fun _ hK3 => rg ?_
 have bB := hf.B7 10 11 12 13 14 15 16
 iterate 3 refine Zy ?_
 refine Zg ?_ (hv := by simp (decide := true) only [Fact.G, reduceIte, hf.size, q0, q1, Fact.N])
 refine Zg ?_ (hv := by simp (decide := true) only [Fact.G, reduceIte, hf.size, q0, q1, Fact.N])
 refine Zg ?_ (hv := by simp (decide := true) only [Fact.G, reduceIte, hf.size, q0, q1, Fact.N])
 refine Zg ?_ (hv := by simp (decide := true) only [Fact.G, reduceIte, hf.size, q0, q1, Fact.N])
 refine Zy ?_
 refine Fact.nil (Zq4 0 1 4 17 hf ?_)
 clear hf sS bB; intro fr1 hf sS
 refine Zx hK3 (Fact.cond_f sS.2.2.2 ?_)
 clear q0 q1
 obtain ⟨c, hc⟩ : ∃ c, at_ s i = c := ⟨_, rfl⟩
 have hc8 : c < 256 := by rw [<- hc]; exact at_lt s i
 have hwc : (wl s)[i]? = some c := by rw [<- hc]; exact wl_at hlt
 have HC := Lib.hid hc; have HW := Lib.hid hwc; clear hc hwc
 refine wp_skip (Zt hK2 fun _ hK4 => ?_)
 have bB := hf.B3 19 20 21
 iterate 2 refine Zy ?_
 refine fp fun K Z => ?_
 go_simp
 try rw [dif_pos (by omega)]
 skip
 apply Z.out; clear Z K
 refine Zy ?_
 refine Fact.nil (Zq4 0 1 4 7 hf ?_)
 clear hf sS bB; intro fr1 hf sS
 refine Zx hK4 ?_
 obtain ⟨s0, s1, s4, s7⟩ := sS
 try rw [HC.out] at s7
 refine Ze fun _ hK5 => Ze fun _ hK6 => Zr [22] hf ?_
 refine Zq5 0 1 4 7 23 hf ?_
 clear hf s0 s1 s4 s7; intro fr1 hf sS
 refine Zx hK6 (Fact.cond_s sS.2.2.2.2 (fun hq => ?_) (fun hq => ?_))
 . (
 have h8 : c < 248 := by have h9 := of_decide_eq_true hq; omega
 clear hq
 refine Ze fun _ hK7 => Zr [24, 25, 26, 27] hf ?_
 refine Zq3 4 5 6 hf ?_
 clear hf sS; intro fr1 hf sS
 refine Zx hK7 (Zret ?_)
 obtain ⟨s4, s5, s6⟩ := sS
 refine Fact.ret3 rfl hf s4 s5 s6 ⟨?_, Below.refl _ _⟩
 rw [getN_small HW.out h8]
 rfl)
 . (
 have h8 : ¬ c < 248 := by have h9 := of_decide_eq_false hq; omega
 clear hq
 obtain ⟨m, hm⟩ : ∃ m, c - 247 = m := ⟨_, rfl⟩
 have hm8 : 1 <= m /\ m <= 8 := by omega
 have HM := Lib.hid hm; clear hm
 refine wp_skip (Zt hK5 fun _ hK8 => ?_)
 have bB := hf.B4 28 29 30 31
 iterate 2 refine Zy ?_
 refine fp fun K Z => ?_
 go_simp
 try simp (disch := omega) only [Fact.W]
 try simp (disch := omega) only [Fact.W]
 apply Z.out; clear Z K
 refine fp fun K Z => ?_
 go_simp
 try simp (disch := omega) only [Fact.W]
 try simp (disch := omega) only [Fact.W]
 rw [show (c : Int) - 248 + 1 = ((c - 247 : Nat) : Int) by omega]
 rw [HM.out]
 apply Z.out; clear Z K
 refine Zy ?_
 refine Fact.nil (Zq4 0 1 4 8 hf ?_)
 clear hf sS bB; intro fr1 hf sS
 refine Zs hK8 fun _ hK9 => Ze fun _ hK10 => Zr [32, 33, 34, 35, 36] hf ?_
 refine Zq5 0 1 4 8 37 hf ?_
 clear hf sS; intro fr1 hf sS
 refine Zx hK10 (Fact.cond_s sS.2.2.2.2 (fun hq => ?_) (fun hq => ?_))
 . (
 have h7 : s.size - i <= m := by have h9 := of_decide_eq_true hq; omega
 clear hq
 refine Ze fun _ hK11 => Zr [38] hf ?_
 refine Zq3 4 5 6 hf ?_
 clear hf sS; intro fr1 hf sS
 refine Zx hK11 (Zret ?_)
 obtain ⟨s4, s5, s6⟩ := sS
 refine Fact.ret3 rfl hf s4 s5 s6 ⟨?_, Below.refl _ _⟩
 rw [getN_short HW.out h8 (by rw [wl_length, HM.out]; exact h7)]
 rfl)
 . (
 have h7 : ¬ s.size - i <= m := by have h9 := of_decide_eq_false hq; omega
 clear hq
 refine wp_skip (Zs hK9 fun _ hK12 => Ze fun _ hK13 => Zr [] hf ?_)
 refine Zq6 0 1 4 8 39 40 hf ?_
 clear hf sS; intro fr1 hf sS
 refine Zx hK13 (wp_block (wp_loop_ghost (fun gk fr wr => ∃ (k n : Nat), gk = m - k /\ k <= m /\ Fact.Fr 67 fr /\ fr.tmps[0]? = some (.string s) /\ fr.tmps[1]? = some (.int .i64 i) /\ fr.tmps[8]? = some (.int .i64 m) /\ fr.tmps[39]? = some (.int .i64 m) /\ fr.tmps[40]? = some (.int .i64 k) /\ fr.tmps[4]? = some (.int .u64 n) /\ n = ofLe (((wl s).drop (i + 1)).take k) /\ wr = w) (m) ?_ ?_))
 . (
 obtain ⟨s0, s1, s4, s8, s39, s40⟩ := sS
 exact ⟨0, 0, rfl, Nat.zero_le _, hf, s0, s1, s8, s39, s40, s4, rfl, rfl⟩)
 . (
 clear hf sS
 rintro gk fr wr ⟨k, n, hk, hkm, hf, s0, s1, s8, s39, s40, s4, hn, hwr⟩
 subst wr
 have HK := Lib.hid hk; have HN := Lib.hid hn; clear hk hn
 refine Ze fun _ hK14 => Zr [] hf ?_
 refine Zq7 0 1 4 8 39 40 41 hf ?_
 clear hf s0 s1 s4 s8 s39 s40; intro fr1 hf sS
 refine Zs hK14 fun _ hK15 => Fact.cond_s sS.2.2.2.2.2.2 (fun hq => ?_) (fun hq => ?_)
 . (
 have hltk : k < m := by have h9 := of_decide_eq_true hq; omega
 clear hq
 obtain ⟨d, hd⟩ : ∃ d, at_ s (i + 1 + k) = d := ⟨_, rfl⟩
 have hd8 : d < 256 := by rw [<- hd]; exact at_lt s _
 have hwd : (wl s)[i + 1 + k]? = some d := by rw [<- hd]; exact wl_at (by omega)
 have HD := Lib.hid hd; clear hd
 have hn256 : n < 256 ^ k := by rw [HN.out]; exact ofLe_take s _ _
 have hst := ofLe_step hwd
 rw [<- HN.out] at hst
 obtain ⟨n2, hn2⟩ : ∃ n2, n + 256 ^ k * d = n2 := ⟨_, rfl⟩
 rw [hn2] at hst
 obtain ⟨p, hp⟩ : ∃ p, 256 ^ k * d = p := ⟨_, rfl⟩
 rw [hp] at hn2
 have hor := or_add (d := d) hn256
 rw [hp] at hor
 have hn64 : n < 18446744073709551616 := by rw [HN.out]; exact ofLe_64 s _ (show k <= 8 by omega)
 have hp64 : p < 18446744073709551616 := by rw [<- hp]; exact shl_lt hd8 (show k <= 7 by omega)
 have HP := Lib.hid hp; have HOR := Lib.hid hor; have HN2 := Lib.hid hn2; have HST := Lib.hid hst; clear hn2 hst hwd hp hor
 refine wp_skip (Zs hK15 fun _ hK16 => wp_block (Ze fun _ hK17 => Zr [42] hf ?_))
 refine Zq7 0 1 4 8 9 39 40 hf ?_
 clear hf sS; intro fr1 hf sS
 refine Zx hK17 (rg ?_)
 have bB := And.intro (hf.B10 43 44 45 46 47 48 49 50 51 52) (hf.B2 53 54)
 iterate 6 refine Zy ?_
 refine fp fun K Z => ?_
 go_simp
 rw [if_pos (by omega), Oper.upon_value, show ((i : Int) + 1 + (k : Int)).toNat = i + 1 + k by omega, HD.out]
 apply Z.out; clear Z K
 iterate 3 refine Zy ?_
 refine fp fun K Z => ?_
 go_simp
 rw [shl_cut hd8 (show k <= 7 by omega), HP.out]
 apply Z.out; clear Z K
 refine fp fun K Z => ?_
 go_simp
 rw [u64_or_nat n p hn64 hp64, HOR.out, HN2.out]
 apply Z.out; clear Z K
 refine Zy ?_
 refine Fact.nil (Zq6 0 1 4 8 39 40 hf ?_)
 clear hf sS bB; intro fr1 hf sS
 refine Fact.block_normal (Zx hK16 (Zr [55] hf ?_))
 refine Zq6 0 1 4 8 39 40 hf ?_
 clear hf sS; intro fr1 hf sS
 refine Fact.then_normal ?_
 obtain ⟨s0, s1, s4, s8, s39, s40⟩ := sS
 exact ⟨_, by have := HK.out; omega, k + 1, n2, rfl, by omega, hf, s0, s1, s8, s39, by rw [s40]; rfl, s4, HST.out, rfl⟩)
 . (
 have hke : k = m := by have h9 := of_decide_eq_false hq; omega
 subst hke
 clear hq
 have hn64 : n < M64 := by rw [HN.out]; exact ofLe_64 s _ hm8.2
 refine Zo ?_
 refine Zs hK12 fun _ hK18 => Ze fun _ hK19 => rg ?_
 have bB := hf.B4 56 57 58 59
 refine Zy ?_
 refine Zc (size85 w n hn64) ?_; rintro e w1 ⟨rfl, hbz⟩
 refine Zv ?_
 refine Zy ?_
 refine fp fun K Z => ?_
 go_simp
 try simp (disch := omega) only [Fact.W]
 rw [show (1 : Int) + (k : Int) = ((1 + k : Nat) : Int) by omega]
 apply Z.out; clear Z K
 refine Zy ?_
 refine Fact.nil (Zq4 1 4 8 60 hf ?_)
 clear hf sS bB; intro fr1 hf sS
 refine Zx hK19 (Fact.cond_s sS.2.2.2 (fun hq => ?_) (fun hq => ?_))
 . (
 have h6 : ¬ (numB n).length = 1 + k := by have h9 := hq; simp at h9; omega
 clear hq
 refine Ze fun _ hK20 => Zr [61] hf ?_
 refine Zq3 4 5 6 hf ?_
 clear hf sS; intro fr1 hf sS
 refine Zx hK20 (Zret ?_)
 obtain ⟨s4, s5, s6⟩ := sS
 refine Fact.ret3 rfl hf s4 s5 s6 ⟨?_, hbz⟩
 rw [getN_form HW.out h8 (by rw [wl_length, HM.out]; exact h7) (by rw [HM.out, <- HN.out]; exact h6)]
 rfl)
 . (
 have h6 :  (numB n).length = 1 + k := by have h9 := hq; simp at h9; omega
 clear hq
 refine wp_skip (Zs hK18 fun _ hK21 => Zr [62, 63, 64, 65, 66] hf ?_)
 refine Zq3 4 5 6 hf ?_
 clear hf sS; intro fr1 hf sS
 refine Zx hK21 (Zret ?_)
 obtain ⟨s4, s5, s6⟩ := sS
 refine Fact.ret3 rfl hf s4 s5 s6 ⟨?_, hbz⟩
 rw [getN_big HW.out h8 (by rw [wl_length, HM.out]; exact h7) (by rw [HM.out, <- HN.out]; exact h6), HM.out, <- HN.out]
 rfl))))))
 . (
 have q1 : decide (s.size <= i) = true := decide_eq_true hge
 refine Ze fun _ hK22 => Ze fun _ hK23 => rg ?_
 have bB := hf.B7 10 11 12 13 14 15 16
 iterate 3 refine Zy ?_
 refine Zg ?_ (hv := by simp (decide := true) only [Fact.G, reduceIte, hf.size, q0, q1, Fact.N])
 refine Zg ?_ (hv := by simp (decide := true) only [Fact.G, reduceIte, hf.size, q0, q1, Fact.N])
 refine Zg ?_ (hv := by simp (decide := true) only [Fact.G, reduceIte, hf.size, q0, q1, Fact.N])
 refine Zg ?_ (hv := by simp (decide := true) only [Fact.G, reduceIte, hf.size, q0, q1, Fact.N])
 refine Zy ?_
 refine Fact.nil (Zq4 0 1 4 17 hf ?_)
 clear hf sS bB; intro fr1 hf sS
 refine Zx hK23 (Fact.cond_t sS.2.2.2 ?_)
 refine Ze fun _ hK24 => Zr [18] hf ?_
 refine Zq3 4 5 6 hf ?_
 clear hf sS; intro fr1 hf sS
 refine Zx hK24 (Zret ?_)
 obtain ⟨s4, s5, s6⟩ := sS
 refine Fact.ret3 rfl hf s4 s5 s6 ⟨?_, Below.refl _ _⟩
 rw [getN_over (by rw [wl_length]; exact hge)]
 rfl)
def RD (w : World) (g : Nat) (s : ByteArray) (i : Nat) : Prop := w.heap[g]? = some (.cells #[.string s, .int .i64 i] 84 (0, 0))
theorem RD.c0 {w : World} {g : Nat} {s : ByteArray} {i : Nat} (h : RD w g s i) : w.cell? ⟨g, 0, none⟩ = some (.string s) := by rw [cell_of_row _ _ 0 _ _ (0, 0) h]; rfl
theorem RD.c1 {w : World} {g : Nat} {s : ByteArray} {i : Nat} (h : RD w g s i) : w.cell? ⟨g, 1, none⟩ = some (.int .i64 i) := by rw [cell_of_row _ _ 1 _ _ (0, 0) h]; rfl
theorem RD.later {w w1 : World} {g : Nat} {s : ByteArray} {i : Nat} (h : RD w g s i) (hb : Below w.heap.size w w1) : RD w1 g s i := (hb.block g (heap_lt h)).trans h
def charN (s : ByteArray) (i : Nat) : Nat × Nat × Nat := if i = s.size then (0, i, 3) else (at_ s i, i + 1, 0)
theorem charN_end {s : ByteArray} {i : Nat} (h : i = s.size) : charN s i = (0, i, 3) := by unfold charN; rw [if_pos h]
theorem charN_at {s : ByteArray} {i : Nat} (h : i < s.size) : charN s i = (at_ s i, i + 1, 0) := by unfold charN; rw [if_neg (by omega)]
def rangeN (lo hi n : Nat) : Nat := if n < lo \/ hi < n then 17 else 0
theorem range_cases (n lo hi : Nat) : n < lo \/ (lo <= n /\ hi < n) \/ (lo <= n /\ n <= hi) := by omega
def magicAt (k : Nat) : Nat := [67, 83, 1].getD k 0
theorem magic_at {k : Nat} (h : k < 3) : at_ ⟨#[67, 83, 1]⟩ k = magicAt k := by
 rcases k with _ | _ | _ | k <;> first | rfl | omega
def kindN (k x : Nat) : Nat := if x = magicAt k then 0 else 6
theorem char69 (w : World) (c g : Nat) (s : ByteArray) (i : Nat) (hc : w.cell? ⟨c, 0, none⟩ = some (.pointer (some ⟨g, 0, none⟩))) (hr : RD w g s i) (hi : i <= s.size) (hsz : s.size <= 1000000000) : Calls Tryz.prog 95 #[.pointer (some ⟨c, 0, none⟩)] w fun e w1 => e = .returned (.tuple #[.int .u8 (charN s i).1, .int .i64 (charN s i).2.1, .int .i64 (charN s i).2.2]) /\ Below w.heap.size w w1 := by
 refine Zn1 32 Tryz.func95 fun fr hf s0 => ?_
 have g0 := hr.c0; have g1 := hr.c1
 clear hr
 refine Ze fun _ hK1 => Zr [] hf ?_
 refine Zq1 0 hf ?_
 clear hf s0; intro fr1 hf s0
 refine Zs hK1 fun _ hK2 => Ze fun _ hK3 => Stab.tb 32 fun hok => ?_
 refine Stab.T 0 hf hok (fun _ _ h d => ad (Stab.O h s0) (ad (cL h.ext hc) (ad (cL h.ext g0) (cL h.ext g1)))) ?_
 refine Stab.T 1 hf hok (fun _ _ h d => Stab.vd 0 0 d []) ?_
 refine Stab.T 2 hf hok (fun _ _ h d => Stab.vd 1 0 d []) ?_
 refine Stab.T 3 hf hok (fun _ _ h d => ad (Stab.vd 2 0 d []) (ad (cL h.ext hc) (ad (cL h.ext g0) (cL h.ext g1)))) ?_
 refine Stab.T 4 hf hok (fun _ _ h d => ad (Stab.O h s0) (ad (cL h.ext hc) (ad (cL h.ext g0) (cL h.ext g1)))) ?_
 refine Stab.T 5 hf hok (fun _ _ h d => Stab.vd 4 0 d []) ?_
 refine Stab.T 6 hf hok (fun _ _ h d => Stab.vd 5 0 d []) ?_
 refine Stab.T 7 hf hok (fun _ _ h d => ad (Stab.vd 6 0 d []) (ad (cL h.ext hc) (ad (cL h.ext g0) (cL h.ext g1)))) ?_
 refine Stab.T 8 hf hok (fun _ _ h d => ad (Stab.vd 7 0 d []) (ad (cL h.ext hc) (ad (cL h.ext g0) (cL h.ext g1)))) ?_
 refine Stab.T 9 hf hok (fun _ _ h d => ad (Stab.vd 3 5 d []) (Stab.vd 8 0 d [])) ?_
 refine Stab.E hf hok (fun _ _ h g => ad (Stab.O h s0) (Stab.f 9 0 g)) ?_
 clear hf hok s0; intro fr1 w1 hf hx sS
 replace hc := cL hx hc
 replace g0 := cL hx g0
 replace g1 := cL hx g1
 refine Zx hK3 (Fact.cond_s sS.2 (fun hq => ?_) (fun hq => ?_))
 . (
 have hie : i = s.size := by have := beq_iff_eq.1 hq; omega
 have HIE := Lib.hid hie; clear hie hq
 have hbx := hx; clear hx
 refine Ze fun _ hK4 => ?_
 obtain ⟨s0, s13⟩ := sS
 refine Stab.tb 32 fun hok => ?_
 refine Stab.T 0 hf hok (fun _ _ h d => ad (Stab.O h s0) (ad (cL h.ext hc) (ad (cL h.ext g0) (cL h.ext g1)))) ?_
 refine Stab.T 1 hf hok (fun _ _ h d => Stab.vd 0 0 d []) ?_
 refine Stab.T 2 hf hok (fun _ _ h d => Stab.vd 1 0 d []) ?_
 refine Stab.T 3 hf hok (fun _ _ h d => ad (Stab.vd 2 0 d []) (ad (cL h.ext hc) (ad (cL h.ext g0) (cL h.ext g1)))) ?_
 refine Stab.T 4 hf hok (fun _ _ h d => trivial) ?_
 refine Stab.mN 5 3 1 hf hok [] ?_
 refine Stab.T 6 hf hok (fun _ _ h d => trivial) ?_
 refine Stab.E hf hok (fun _ _ h g => ad (Stab.f 4 2 g) (ad (Stab.f 5 1 g) (Stab.f 6 0 g))) ?_
 clear hf hok s0 s13; intro fr1 w1 hf hx sS
 replace hc := cL hx hc
 replace g0 := cL hx g0
 replace g1 := cL hx g1
 refine Zx hK4 (Zret ?_)
 obtain ⟨s1, s2, s3⟩ := sS
 refine Fact.ret3 rfl hf s1 s2 s3 ⟨?_, hbx.trans (hx.mono hbx.size)⟩
 rw [charN_end HIE.out]
 rfl)
 . (
 have hlt : i < s.size := by have := beq_eq_false_iff_ne.1 hq; omega
 clear hq
 have hbx := hx; clear hx
 refine wp_skip (Zs hK2 fun _ hK5 => ?_)
 obtain ⟨s0, s13⟩ := sS
 refine Stab.tb 32 fun hok => ?_
 refine Stab.T 0 hf hok (fun _ _ h d => ad (Stab.O h s0) (ad (cL h.ext hc) (ad (cL h.ext g0) (cL h.ext g1)))) ?_
 refine Stab.T 1 hf hok (fun _ _ h d => Stab.vd 0 0 d []) ?_
 refine Stab.T 2 hf hok (fun _ _ h d => Stab.vd 1 0 d []) ?_
 refine Stab.T 3 hf hok (fun _ _ h d => ad (Stab.vd 2 0 d []) (ad (cL h.ext hc) (ad (cL h.ext g0) (cL h.ext g1)))) ?_
 refine Stab.T 4 hf hok (fun _ _ h d => ad (Stab.O h s0) (ad (cL h.ext hc) (ad (cL h.ext g0) (cL h.ext g1)))) ?_
 refine Stab.T 5 hf hok (fun _ _ h d => Stab.vd 4 0 d []) ?_
 refine Stab.T 6 hf hok (fun _ _ h d => Stab.vd 5 0 d []) ?_
 refine Stab.T 7 hf hok (fun _ _ h d => ad (Stab.vd 6 0 d []) (ad (cL h.ext hc) (ad (cL h.ext g0) (cL h.ext g1)))) ?_
 apply Stab.tq 8 _ hf hok
 . (
 intro fr1 w1 hh hd hk K Z
 have s21 := Stab.v 3 4 hd hk []
 have s25 := Stab.v 7 0 hd hk []
 clear hd
 replace hc := cL hh.ext hc
 replace g0 := cL hh.ext g0
 replace g1 := cL hh.ext g1
 go_simp
 try rw [dif_pos (by omega)]
 exact Stab.k Z)
 refine Stab.T 9 hf hok (fun _ _ h d => ad (Stab.O h s0) (ad (cL h.ext hc) (ad (cL h.ext g0) (cL h.ext g1)))) ?_
 refine Stab.T 10 hf hok (fun _ _ h d => Stab.vd 9 0 d []) ?_
 refine Stab.T 11 hf hok (fun _ _ h d => Stab.vd 10 0 d []) ?_
 refine Stab.T 12 hf hok (fun _ _ h d => ad (Stab.vd 11 0 d []) (ad (cL h.ext hc) (ad (cL h.ext g0) (cL h.ext g1)))) ?_
 refine Stab.Tb 13 hf hok (fun _ _ h d => Stab.vd 12 0 d []) ?_
 refine Stab.mN 14 8 5 hf hok [] ?_
 refine Stab.mN 15 13 1 hf hok [] ?_
 refine Stab.T 16 hf hok (fun _ _ h d => trivial) ?_
 refine Stab.E hf hok (fun _ _ h g => ad (Stab.f 14 2 g) (ad (Stab.f 15 1 g) (Stab.f 16 0 g))) ?_
 clear hf hok s0 s13; intro fr1 w1 hf hx sS
 replace hc := cL hx hc
 replace g0 := cL hx g0
 replace g1 := cL hx g1
 refine Zx hK5 (Zret ?_)
 obtain ⟨s1, s2, s3⟩ := sS
 refine Fact.ret3 rfl hf s1 s2 s3 ⟨?_, hbx.trans (hx.mono hbx.size)⟩
 rw [charN_at hlt]
 simp [at_get hlt])
theorem num71 (w : World) (c g : Nat) (s : ByteArray) (i : Nat) (hc : w.cell? ⟨c, 0, none⟩ = some (.pointer (some ⟨g, 0, none⟩))) (hr : RD w g s i) (hi : i <= s.size) (hsz : s.size <= 1000000000) : Calls Tryz.prog 97 #[.pointer (some ⟨c, 0, none⟩)] w fun e w1 => e = .returned (.tuple #[.int .u64 (getN (wl s) i).1, .int .i64 (getN (wl s) i).2.1, .int .i64 (getN (wl s) i).2.2]) /\ Below w.heap.size w w1 := by
 refine Zn1 16 Tryz.func97 fun fr hf s0 => ?_
 have g0 := hr.c0; have g1 := hr.c1
 clear hr
 refine Ze fun _ hK1 => Zr [] hf ?_
 refine Zq1 0 hf ?_
 clear hf s0; intro fr1 hf s0
 refine Zs hK1 fun _ hK2 => Stab.tb 16 fun hok => ?_
 refine Stab.T 0 hf hok (fun _ _ h d => ad (Stab.O h s0) (ad (cL h.ext hc) (ad (cL h.ext g0) (cL h.ext g1)))) ?_
 refine Stab.T 1 hf hok (fun _ _ h d => Stab.vd 0 0 d []) ?_
 refine Stab.T 2 hf hok (fun _ _ h d => Stab.vd 1 0 d []) ?_
 refine Stab.T 3 hf hok (fun _ _ h d => ad (Stab.vd 2 0 d []) (ad (cL h.ext hc) (ad (cL h.ext g0) (cL h.ext g1)))) ?_
 refine Stab.T 4 hf hok (fun _ _ h d => ad (Stab.O h s0) (ad (cL h.ext hc) (ad (cL h.ext g0) (cL h.ext g1)))) ?_
 refine Stab.T 5 hf hok (fun _ _ h d => Stab.vd 4 0 d []) ?_
 refine Stab.T 6 hf hok (fun _ _ h d => Stab.vd 5 0 d []) ?_
 refine Stab.T 7 hf hok (fun _ _ h d => ad (Stab.vd 6 0 d []) (ad (cL h.ext hc) (ad (cL h.ext g0) (cL h.ext g1)))) ?_
 apply Stab.tq 8 _ hf hok
 . (
 intro fr1 w1 hh hd hk K Z
 have s7 := Stab.v 3 4 hd hk []
 have s11 := Stab.v 7 0 hd hk []
 clear hd
 replace hc := cL hh.ext hc
 replace g0 := cL hh.ext g0
 replace g1 := cL hh.ext g1
 go_simp
 go_at_call 98; refine (get72 _ s i hi hsz).mono ?_; rintro e w2 ⟨rfl, hb2⟩
 exact Z.out _ rfl _ _ hb2 rfl)
 refine Stab.T 9 hf hok (fun _ _ h d => Stab.vd 8 0 d []) ?_
 refine Stab.T 10 hf hok (fun _ _ h d => Stab.vd 8 1 d []) ?_
 refine Stab.T 11 hf hok (fun _ _ h d => Stab.vd 8 2 d []) ?_
 refine Stab.mN 12 9 2 hf hok [] ?_
 refine Stab.mN 13 10 2 hf hok [] ?_
 refine Stab.mN 14 11 2 hf hok [] ?_
 refine Stab.E hf hok (fun _ _ h g => ad (Stab.f 12 2 g) (ad (Stab.f 13 1 g) (Stab.f 14 0 g))) ?_
 clear hf hok s0; intro fr1 w1 hf hx sS
 replace hc := cL hx hc
 replace g0 := cL hx g0
 replace g1 := cL hx g1
 refine Zx hK2 (Zret ?_)
 obtain ⟨s1, s2, s3⟩ := sS
 exact Fact.ret3 rfl hf s1 s2 s3 ⟨rfl, hx⟩
theorem num73 (w : World) (n lo hi p q : Nat) (hp : w.cell? ⟨p, 0, none⟩ = some (.int .u64 lo)) (hq : w.cell? ⟨q, 0, none⟩ = some (.int .u64 hi)) : Calls Tryz.prog 99 #[.int .u64 n, .pointer (some ⟨p, 0, none⟩), .pointer (some ⟨q, 0, none⟩)] w fun e w1 => e = .returned (.int .i64 (rangeN lo hi n : Nat)) /\ Below w.heap.size w w1 := by
 refine Zn3 13 Tryz.func99 fun fr hf s0 s1 s2 => ?_
 rcases range_cases n lo hi with hcs | hcs | hcs
 . (
 have q1 : decide (n < lo) = true := decide_eq_true (by omega)
 have HC := Lib.hid hcs; clear hcs
 refine Ze fun _ hK1 => Zr [] hf ?_
 refine Zq3 0 1 2 hf ?_
 clear hf s0 s1 s2; intro fr1 hf sS
 refine Zs hK1 fun _ hK2 => Ze fun _ hK3 => ?_
 have qs := q1
 refine Zr [5, 6, 7, 8, 9, 10, 11] hf ?_
 refine Zq1 12 hf ?_
 clear hf sS qs; intro fr1 hf s12
 refine Zx hK3 (Fact.cond_t s12 ?_)
 refine Ze fun _ hK4 => Zr [] hf ?_
 refine Zq1 4 hf ?_
 clear hf s12; intro fr1 hf s4
 refine Zx hK4 (Zret ?_)
 refine Fact.ret1 rfl hf s4 ⟨?_, Below.refl _ _⟩
 have := HC.out
 rw [rangeN, if_pos (by omega)]
 rfl)
 . (
 have q1 : decide (n < lo) = false := decide_eq_false (by omega)
 have q2 : decide (hi < n) = true := decide_eq_true (by omega)
 have HC := Lib.hid hcs; clear hcs
 refine Ze fun _ hK5 => Zr [] hf ?_
 refine Zq3 0 1 2 hf ?_
 clear hf s0 s1 s2; intro fr1 hf sS
 refine Zs hK5 fun _ hK6 => Ze fun _ hK7 => ?_
 have qs := And.intro q1 q2
 refine Zr [5, 6, 7, 8, 9, 10, 11] hf ?_
 refine Zq1 12 hf ?_
 clear hf sS qs; intro fr1 hf s12
 refine Zx hK7 (Fact.cond_t s12 ?_)
 refine Ze fun _ hK8 => Zr [] hf ?_
 refine Zq1 4 hf ?_
 clear hf s12; intro fr1 hf s4
 refine Zx hK8 (Zret ?_)
 refine Fact.ret1 rfl hf s4 ⟨?_, Below.refl _ _⟩
 have := HC.out
 rw [rangeN, if_pos (by omega)]
 rfl)
 . (
 have q1 : decide (n < lo) = false := decide_eq_false (by omega)
 have q2 : decide (hi < n) = false := decide_eq_false (by omega)
 have HC := Lib.hid hcs; clear hcs
 refine Ze fun _ hK9 => Zr [] hf ?_
 refine Zq3 0 1 2 hf ?_
 clear hf s0 s1 s2; intro fr1 hf sS
 refine Zs hK9 fun _ hK10 => Ze fun _ hK11 => ?_
 have qs := And.intro q1 q2
 refine Zr [5, 6, 7, 8, 9, 10, 11] hf ?_
 refine Zq1 12 hf ?_
 clear hf sS qs; intro fr1 hf s12
 refine Zx hK11 (Fact.cond_f s12 ?_)
 refine wp_skip (Zs hK10 fun _ hK12 => Zr [] hf ?_)
 refine Zq1 4 hf ?_
 clear hf s12; intro fr1 hf s4
 refine Zx hK12 (Zret ?_)
 refine Fact.ret1 rfl hf s4 ⟨?_, Below.refl _ _⟩
 have := HC.out
 rw [rangeN, if_neg (by omega)]
 rfl)
theorem state74 (w : World) (x : Nat) : Calls Tryz.prog 100 #[.int .u8 x] w fun e w1 => e = .returned (.int .i64 ((0 : Nat) : Int)) /\ Below w.heap.size w w1 := by
 refine Zn1 3 Tryz.func100 fun fr hf s0 => ?_
 refine Ze fun _ hK1 => Zr [] hf ?_
 refine Zq0 hf ?_
 clear hf s0; intro fr1 hf
 refine Zs hK1 fun _ hK2 => Zr [] hf ?_
 refine Zq1 2 hf ?_
 clear hf; intro fr1 hf s2
 refine Zx hK2 (Zret ?_)
 exact Fact.ret1 rfl hf s2 ⟨rfl, Below.refl _ _⟩
theorem all50 (w : World) (x k p : Nat) (hk : k < 3) (hp : w.cell? ⟨p, 0, none⟩ = some (.int .i64 k)) : Calls Tryz.prog 58 #[.int .u8 x, .pointer (some ⟨p, 0, none⟩)] w fun e w1 => e = .returned (.int .i64 (kindN k x : Nat)) /\ Below w.heap.size w w1 := by
 refine Zn2 8 Tryz.func58 fun fr hf s0 s1 => ?_
 obtain ⟨m, hm⟩ : ∃ x, magicAt k = x := ⟨_, rfl⟩
 have hat : ∀ h : k < (ByteArray.mk #[67, 83, 1]).size, ((ByteArray.mk #[67, 83, 1])[k]'h).toNat = m := fun h => by rw [<- hm, <- magic_at hk, at_get h]
 have HM := Lib.hid hm; clear hm
 refine Ze fun _ hK1 => Zr [] hf ?_
 refine Zq2 0 1 hf ?_
 clear hf s0 s1; intro fr1 hf sS
 refine Zs hK1 fun _ hK2 => Ze fun _ hK3 => rg ?_
 have bB := hf.B3 4 5 6
 iterate 2 refine Zy ?_
 refine fp fun K Z => ?_
 go_simp
 rw [if_pos (by omega)]
 apply Z.out; clear Z K
 refine Zy ?_
 refine Fact.nil (Zq1 7 hf ?_)
 clear hf sS bB; intro fr1 hf s7
 refine Zx hK3 (Fact.cond_s s7 (fun hq => ?_) (fun hq => ?_))
 . (
 refine Ze fun _ hK4 => Zr [] hf ?_
 refine Zq1 3 hf ?_
 clear hf s7; intro fr1 hf s3
 refine Zx hK4 (Zret ?_)
 refine Fact.ret1 rfl hf s3 ⟨?_, Below.refl _ _⟩
 unfold kindN
 rw [HM.out, if_neg (by intro e; subst e; simp at hq)]
 rfl)
 . (
 refine wp_skip (Zs hK2 fun _ hK5 => Zr [] hf ?_)
 refine Zq1 3 hf ?_
 clear hf s7; intro fr1 hf s3
 refine Zx hK5 (Zret ?_)
 refine Fact.ret1 rfl hf s3 ⟨?_, Below.refl _ _⟩
 unfold kindN
 rw [HM.out, if_pos (by have := (by simpa using hq : (x : Int) = m); omega)]
 rfl)
theorem Pan.via {w w1 w2 : World} {e : Ending} {c a : Int} (hb : Below w.heap.size w w2) (h : Pan w2 w1 e c a) : Pan w w1 e c a := by
 obtain ⟨q, h1, h2, h3, h4⟩ := h
 exact ⟨q, h1, Nat.le_trans hb.size h2, h3, hb.trans (h4.mono hb.size)⟩
def ThR (w w1 : World) (e : Ending) (k : IntKind) (r : Nat × Nat × Nat) (c2 i g : Nat) (s : ByteArray) : Prop :=
 if r.2.2 ≠ 0 then Pan w w1 e r.2.2 i else if c2 ≠ 0 then Pan w w1 e c2 i else e = .returned (.int k r.1) /\ RD w1 g s r.2.1 /\ But (fun k => k = g) w w1
theorem ThR.one {w w1 : World} {e : Ending} {k : IntKind} {x ny c1 c2 i g : Nat} {s : ByteArray} (hc : c1 ≠ 0) (h : Pan w w1 e c1 i) : ThR w w1 e k (x, ny, c1) c2 i g s := by
 unfold ThR
 rw [if_pos hc]
 exact h
theorem ThR.two {w w1 : World} {e : Ending} {k : IntKind} {x ny c2 i g : Nat} {s : ByteArray} (hc : c2 ≠ 0) (h : Pan w w1 e c2 i) : ThR w w1 e k (x, ny, 0) c2 i g s := by
 unfold ThR
 rw [if_neg (by simp), if_pos hc]
 exact h
theorem ThR.ok {w w1 : World} {k : IntKind} {x ny i g : Nat} {s : ByteArray} (h : RD w1 g s ny) (hb : But (fun k => k = g) w w1) : ThR w w1 (.returned (.int k x)) k (x, ny, 0) 0 i g s := by
 unfold ThR
 rw [if_neg (by simp), if_neg (by simp)]
 exact ⟨rfl, h, hb⟩
theorem thing68 (w : World) (c g : Nat) (s : ByteArray) (i : Nat) (hc : w.cell? ⟨c, 0, none⟩ = some (.pointer (some ⟨g, 0, none⟩))) (hr : RD w g s i) (hi : i <= s.size) (hsz : s.size <= 1000000000) (fq : FuncId) (capq : Array Value) (c2 : Nat) (hcf : ∀ (xs : Array Value) (w1 : World), (callFunc fq xs).run Tryz.prog w1 = .ok (.enter fq xs) w1) (hq9 : ∀ w1, Below w.heap.size w w1 -> (charN s i).2.2 = 0 -> Calls Tryz.prog fq (#[.int .u8 (charN s i).1] ++ capq) w1 fun e w2 => e = .returned (.int .i64 c2) /\ Below w1.heap.size w1 w2) : Calls Tryz.prog 94 #[.pointer (some ⟨g, 0, none⟩), .func (.func 95) #[] #[.pointer (some ⟨c, 0, none⟩)], .func (.func fq) #[] capq] w fun e w1 => ThR w w1 e .u8 (charN s i) c2 i g s := by
 refine Zn3 40 Tryz.func94 fun fr hf s0 s1 s2 => ?_
 obtain ⟨⟨x, ny, c1⟩, hrr⟩ : ∃ r, charN s i = r := ⟨_, rfl⟩
 rw [hrr] at hq9 |-
 have g1 := hr.c1
 have hgl := heap_lt hr
 refine Ze fun _ hK1 => Zr [] hf ?_
 refine Zq3 0 1 2 hf ?_
 clear hf s0 s1 s2; intro fr1 hf sS
 refine Zt hK1 fun _ hK2 => ?_
 have bB := hf.B6 11 12 10 13 14 15
 refine Zy ?_
 refine Zc (char69 w c g s i hc hr hi hsz) ?_; rintro e w2 ⟨rfl, hb2⟩
 rw [hrr]
 refine Zv ?_
 iterate 7 refine Zy ?_
 refine Fact.nil (Zq5 0 2 7 8 9 hf ?_)
 clear hf sS bB; intro fr1 hf sS
 have g2 := cL hb2 g1
 have hr2 := hr.later hb2
 clear hr g1 hc
 refine Zs hK2 fun _ hK3 => Ze fun _ hK4 => Zr [16] hf ?_
 refine Zq6 0 2 7 8 9 17 hf ?_
 clear hf sS; intro fr1 hf sS
 refine Zx hK4 (Fact.cond_s sS.2.2.2.2.2 (fun h1 => ?_) (fun h1 => ?_))
 . (
 have hne : c1 ≠ 0 := by simpa using h1
 clear h1
 refine rg ?_
 have bB := hf.B5 18 19 20 21 22
 iterate 5 refine Zy ?_
 refine fp fun K Z => ?_
 go_simp
 go_at_call 32; refine (bad33 w2 c1 i).mono ?_; rintro e w3 ⟨q, rfl, hq1, hq2, hq3⟩
 try dsimp only
 refine pan9 hf.defers (ThR.one hne (Pan.via hb2 ⟨q, rfl, hq1, hq2, hq3⟩)))
 . (
 have hz : c1 = 0 := by simpa using h1
 clear h1
 subst hz
 refine wp_skip (Zs hK3 fun _ hK5 => Ze fun _ hK6 => rg ?_)
 have bB := hf.B3 24 25 26
 iterate 2 refine Zy ?_
 refine fp fun K Z => ?_
 go_simp
 try rw [hcf]
 refine (hq9 w2 hb2 rfl).mono ?_
 rintro e w3 ⟨rfl, hb3⟩
 try dsimp only
 apply Z.out; clear Z K
 refine Zy ?_
 refine Fact.nil (Zq4 0 7 8 9 hf ?_)
 clear hf sS bB; intro fr1 hf sS
 have g3 := cL hb3 g2
 have hr3 := hr2.later hb3
 have hb23 := hb2.trans (hb3.mono hb2.size)
 clear hr2 g2
 refine Zs hK6 fun _ hK7 => Zr [27] hf ?_
 refine Zq5 0 7 8 9 28 hf ?_
 clear hf sS; intro fr1 hf sS
 refine Zx hK7 (Fact.cond_s sS.2.2.2.2 (fun h2 => ?_) (fun h2 => ?_))
 . (
 have hne : c2 ≠ 0 := by simpa using h2
 clear h2
 refine rg ?_
 have bB := hf.B5 29 30 31 32 33
 iterate 5 refine Zy ?_
 refine fp fun K Z => ?_
 go_simp
 go_at_call 32; refine (bad33 w3 c2 i).mono ?_; rintro e w4 ⟨q, rfl, hq1, hq2, hq3⟩
 try dsimp only
 refine pan9 hf.defers (ThR.two hne (Pan.via hb23 ⟨q, rfl, hq1, hq2, hq3⟩)))
 . (
 have hz : c2 = 0 := by simpa using h2
 clear h2
 subst hz
 have fz := frozen_of (i := 1) hr3
 refine wp_skip (Zs hK5 fun _ hK8 => Zr [35, 36, 37, 38] hf ?_)
 refine Zq1 7 hf ?_
 clear hf sS; intro fr1 hf s7
 have hr4 : RD (w3.setCell ⟨g, 1, none⟩ (.int .i64 ny)) g s ny := (set_block (i := 1) hr3 _).trans (by simp)
 have hbt : But (fun k => k = g) w (w3.setCell ⟨g, 1, none⟩ (.int .i64 ny)) := (But.of _ hb23).trans (But.setCell (S := fun k => k = g) rfl _)
 refine Zs hK8 fun _ hK9 => Zr [39] hf ?_
 refine Zq1 6 hf ?_
 clear hf s7; intro fr1 hf s6
 refine Zx hK9 (Zret ?_)
 exact Fact.ret1 rfl hf s6 (ThR.ok hr4 hbt)))
theorem thing70 (w : World) (c g : Nat) (s : ByteArray) (i : Nat) (hc : w.cell? ⟨c, 0, none⟩ = some (.pointer (some ⟨g, 0, none⟩))) (hr : RD w g s i) (hi : i <= s.size) (hsz : s.size <= 1000000000) (fq : FuncId) (capq : Array Value) (c2 : Nat) (hcf : ∀ (xs : Array Value) (w1 : World), (callFunc fq xs).run Tryz.prog w1 = .ok (.enter fq xs) w1) (hq9 : ∀ w1, Below w.heap.size w w1 -> (getN (wl s) i).2.2 = 0 -> Calls Tryz.prog fq (#[.int .u64 (getN (wl s) i).1] ++ capq) w1 fun e w2 => e = .returned (.int .i64 c2) /\ Below w1.heap.size w1 w2) : Calls Tryz.prog 96 #[.pointer (some ⟨g, 0, none⟩), .func (.func 97) #[] #[.pointer (some ⟨c, 0, none⟩)], .func (.func fq) #[] capq] w fun e w1 => ThR w w1 e .u64 (getN (wl s) i) c2 i g s := by
 refine Zn3 40 Tryz.func96 fun fr hf s0 s1 s2 => ?_
 obtain ⟨⟨x, ny, c1⟩, hrr⟩ : ∃ r, getN (wl s) i = r := ⟨_, rfl⟩
 rw [hrr] at hq9 |-
 have g1 := hr.c1
 have hgl := heap_lt hr
 refine Ze fun _ hK1 => Zr [] hf ?_
 refine Zq3 0 1 2 hf ?_
 clear hf s0 s1 s2; intro fr1 hf sS
 refine Zt hK1 fun _ hK2 => ?_
 have bB := hf.B6 11 12 10 13 14 15
 refine Zy ?_
 refine Zc (num71 w c g s i hc hr hi hsz) ?_; rintro e w2 ⟨rfl, hb2⟩
 rw [hrr]
 refine Zv ?_
 iterate 7 refine Zy ?_
 refine Fact.nil (Zq5 0 2 7 8 9 hf ?_)
 clear hf sS bB; intro fr1 hf sS
 have g2 := cL hb2 g1
 have hr2 := hr.later hb2
 clear hr g1 hc
 refine Zs hK2 fun _ hK3 => Ze fun _ hK4 => Zr [16] hf ?_
 refine Zq6 0 2 7 8 9 17 hf ?_
 clear hf sS; intro fr1 hf sS
 refine Zx hK4 (Fact.cond_s sS.2.2.2.2.2 (fun h1 => ?_) (fun h1 => ?_))
 . (
 have hne : c1 ≠ 0 := by simpa using h1
 clear h1
 refine rg ?_
 have bB := hf.B5 18 19 20 21 22
 iterate 5 refine Zy ?_
 refine fp fun K Z => ?_
 go_simp
 go_at_call 32; refine (bad33 w2 c1 i).mono ?_; rintro e w3 ⟨q, rfl, hq1, hq2, hq3⟩
 try dsimp only
 refine pan9 hf.defers (ThR.one hne (Pan.via hb2 ⟨q, rfl, hq1, hq2, hq3⟩)))
 . (
 have hz : c1 = 0 := by simpa using h1
 clear h1
 subst hz
 refine wp_skip (Zs hK3 fun _ hK5 => Ze fun _ hK6 => rg ?_)
 have bB := hf.B3 24 25 26
 iterate 2 refine Zy ?_
 refine fp fun K Z => ?_
 go_simp
 try rw [hcf]
 refine (hq9 w2 hb2 rfl).mono ?_
 rintro e w3 ⟨rfl, hb3⟩
 try dsimp only
 apply Z.out; clear Z K
 refine Zy ?_
 refine Fact.nil (Zq4 0 7 8 9 hf ?_)
 clear hf sS bB; intro fr1 hf sS
 have g3 := cL hb3 g2
 have hr3 := hr2.later hb3
 have hb23 := hb2.trans (hb3.mono hb2.size)
 clear hr2 g2
 refine Zs hK6 fun _ hK7 => Zr [27] hf ?_
 refine Zq5 0 7 8 9 28 hf ?_
 clear hf sS; intro fr1 hf sS
 refine Zx hK7 (Fact.cond_s sS.2.2.2.2 (fun h2 => ?_) (fun h2 => ?_))
 . (
 have hne : c2 ≠ 0 := by simpa using h2
 clear h2
 refine rg ?_
 have bB := hf.B5 29 30 31 32 33
 iterate 5 refine Zy ?_
 refine fp fun K Z => ?_
 go_simp
 go_at_call 32; refine (bad33 w3 c2 i).mono ?_; rintro e w4 ⟨q, rfl, hq1, hq2, hq3⟩
 try dsimp only
 refine pan9 hf.defers (ThR.two hne (Pan.via hb23 ⟨q, rfl, hq1, hq2, hq3⟩)))
 . (
 have hz : c2 = 0 := by simpa using h2
 clear h2
 subst hz
 have fz := frozen_of (i := 1) hr3
 refine wp_skip (Zs hK5 fun _ hK8 => Zr [35, 36, 37, 38] hf ?_)
 refine Zq1 7 hf ?_
 clear hf sS; intro fr1 hf s7
 have hr4 : RD (w3.setCell ⟨g, 1, none⟩ (.int .i64 ny)) g s ny := (set_block (i := 1) hr3 _).trans (by simp)
 have hbt : But (fun k => k = g) w (w3.setCell ⟨g, 1, none⟩ (.int .i64 ny)) := (But.of _ hb23).trans (But.setCell (S := fun k => k = g) rfl _)
 refine Zs hK8 fun _ hK9 => Zr [39] hf ?_
 refine Zq1 6 hf ?_
 clear hf s7; intro fr1 hf s6
 refine Zx hK9 (Zret ?_)
 exact Fact.ret1 rfl hf s6 (ThR.ok hr4 hbt)))
end Dw
end Go.Proofs.YtcddnmhmcieebaaGreatDoor
