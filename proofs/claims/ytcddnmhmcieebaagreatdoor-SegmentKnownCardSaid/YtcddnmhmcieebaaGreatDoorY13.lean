/- pack: laying.state. -/
import Derived.Test.YtcddnmhmcieebaaGreatDoorY12
import Derived.Test.YtcddnmhmcieebaaGreatDoorY3
import Derived.Test.YtcddnmhmcieebaaGreatDoorTools
import Derived.WalkSmall
import Derived.Laws.BitsAllLaws
namespace Go.Proofs.YtcddnmhmcieebaaGreatDoor
set_option maxHeartbeats 4000000
set_option maxRecDepth 100000
open Go.RowKit
set_option linter.unusedSimpArgs false
set_option linter.unusedVariables false
set_option linter.unnecessarySimpa false
namespace Dw
def arcB (i : Nat) (a : Arc) : List Nat := a.byte :: numsB [a.out, i - a.to.toNat]
def arcsB (i : Nat) (l : List Arc) : List Nat := l.flatMap (arcB i)
def headB (s : State) : List Nat := numsB (if s.final then [2 * s.arcs.length + 1, s.out] else [2 * s.arcs.length])
def stB (i : Nat) (s : State) : List Nat := headB s ++ arcsB i s.arcs
theorem arcsB_take {l : List Arc} {i k : Nat} {a : Arc} (h : l[k]? = some a) : arcsB i (l.take (k + 1)) = arcsB i (l.take k) ++ arcB i a := by
 rw [List.take_add_one, h]
 simp [arcsB]
theorem arcB_le {i : Nat} {a : Arc} (h : okA a) (hi : i <= 1000000) : (arcB i a).length <= 19 := by
 have h1 := (numB_le (n := a.out) h.2.1).2
 have h2 := (numB_le (n := i - a.to.toNat) (by unfold M64; omega)).2
 simp [arcB, numsB]
 omega
theorem arcsB_len {i : Nat} (hi : i <= 1000000) : ∀ l : List Arc, (∀ a ∈ l, okA a) -> (arcsB i l).length <= 19 * l.length
 | [], _ => by simp [arcsB]
 | a :: l, h => by
  have h1 := arcB_le (h a (List.mem_cons_self ..)) hi
  have h2 := arcsB_len hi l (fun x hx => h x (List.mem_cons_of_mem _ hx))
  simp only [arcsB, List.flatMap_cons, List.length_append, List.length_cons] at h2 |-
  omega
theorem arcsB_le {l : List Arc} (i k : Nat) (h : ∀ a ∈ l, okA a) (hi : i <= 1000000) : (arcsB i (l.take k)).length <= 19 * l.length := by
 have h1 := arcsB_len hi (l.take k) (fun a ha => h a (List.mem_of_mem_take ha))
 have h2 : (l.take k).length <= l.length := by simp; omega
 omega
theorem headB_le {s : State} (h : s.out < 18446744073709551616) (hl : s.arcs.length <= 1000) : (headB s).length <= 18 := by
 unfold headB
 split
 ·have h1 := (numB_le (n := s.out) h).2
  have h2 := (numB_le (n := 2 * s.arcs.length + 1) (by unfold M64; omega)).2
  simp [numsB]
  omega
 ·have h2 := (numB_le (n := 2 * s.arcs.length) (by unfold M64; omega)).2
  simp [numsB]
  omega
theorem below_less {N B : Nat} {w w' : World} (h : Below B w w') (hN : N <= B) : Below N w w' := ⟨h.os, h.tape, h.output, h.size, fun i hi => h.block i (by omega)⟩
def RNs (ns : List Nat) : Stab.Pr := fun v w => RN w w.heap.size v ns
theorem RNs.stable (ns : List Nat) : Stab.Stable (RNs ns) := fun v w w' hb h => (RN.below h hb).more hb.size
theorem rn_new (w : World) (ns : List Nat) (t : TypeId) : RN (w.alloc (.cells (ns.map fun (x : Nat) => Value.int .u64 x).toArray t)) (w.alloc (.cells (ns.map fun (x : Nat) => Value.int .u64 x).toArray t)).heap.size (.slice (some ⟨w.heap.size, 0, none⟩) ns.length ns.length) ns :=
 ⟨_, _, rfl, fun _ => ⟨_, 0, rfl, by simp, fun i x hx => by
  rw [Nat.zero_add]
  exact lit_new w _ t i _ (by rw [List.getElem?_map, hx]; rfl)⟩⟩
theorem state30 (w : World) (N base g : Nat) (bv : Value) (l : List Nat) (sv : Value) (init : Nat) (ss : List State) (hlw : LW w base g [sv, .int .u64 init] 91 bv l) (hbase : base <= w.heap.size) (hgb : base <= g) (hN : N <= base) (hrs : RSN w N sv ss) (i : Nat) (s : State) (hi : ss[i]? = some s) (hok : okS s) (h256 : s.arcs.length <= 256) (hto : ∀ a ∈ s.arcs, 0 <= a.to /\ a.to < (i : Int)) (hlen : ss.length <= 1000000) (hll : l.length <= 899990000) : Calls Tryz.prog 36 #[.pointer (some ⟨g, 0, none⟩), .int .i64 i] w fun e w1 => e = .returned (.tuple #[]) /\ ∃ b1, LW w1 base g [sv, .int .u64 init] 91 b1 (l ++ stB i s) /\ LF w g bv w1 b1 := by
 refine Zn2 71 Tryz.func36 fun fr hf s0 s1 => ?_
 obtain ⟨A, cc, rfl, hcc⟩ := hrs.form
 have hgl := heap_lt hlw.1
 have c1 : w.cell? ⟨g, 1, none⟩ = some (.slice A ss.length cc) := by rw [cell_of_row _ _ 1 _ _ (0, 0) hlw.1]; rfl
 obtain ⟨b, off, av, rfl, hbN, hat⟩ := hrs.at_ hi
 have d0 := hat.c0; have d1 := hat.c1; have d2 := hat.c2
 have hra := hat.arcs
 obtain ⟨A2, c2, rfl, _⟩ := hat.arcs.form
 have hil := (List.getElem?_eq_some_iff.1 hi).1
 have HI := Lib.hid hi; have HOK := Lib.hid hok; have HTO := Lib.hid hto; clear hi hat hok hto
 obtain ⟨hd, hhd⟩ : ∃ x, 2 * s.arcs.length = x := ⟨_, rfl⟩
 obtain ⟨h1, hh1⟩ : ∃ x, hd + 1 = x := ⟨_, rfl⟩
 have hdb : hd <= 512 := by omega
 have HHD := Lib.hid hhd; have HH1 := Lib.hid hh1; clear hhd hh1
 have hM : M64 = 18446744073709551616 := rfl
 refine Ze fun _ hK1 => ?_
 refine Zr [8, 9, 10, 11, 12, 13, 14, 15, 4] hf ?_
 refine Zq3 0 1 4 hf ?_
 clear hf s0 s1; intro fr1 hf sS
 obtain ⟨W0, hW0⟩ : ∃ W0, w.alloc (.cells #[.slice A2 s.arcs.length c2, .bool s.final, .int .u64 s.out] 46) = W0 := ⟨_, rfl⟩
 try rw [hW0]
 obtain ⟨hb0, x0, x1, x2, -, hz0_⟩ := box3 hW0
 clear hW0
 have hz0 : w.heap.size < W0.heap.size := by rw [hz0_]; exact Nat.lt_succ_self _
 clear hz0_
 clear d0 d1 d2 c1
 have hlw0 := hlw.later hb0
 have hoff0 : bv.ownBlock ≠ some w.heap.size := fun e => by have := (World.ownsRow.lt hlw.2.1 _ e).2; omega
 refine Zt hK1 fun _ hK2 => ?_
 have bB := hf.B5 16 17 18 19 20
 iterate 3 refine Za ?_
 refine fp fun K Z => ?_
 go_simp
 try simp (disch := omega) only [Fact.W]
 rw [show (2 : Int) * (s.arcs.length : Int) = ((hd : Nat) : Int) by have := HHD.out; omega]
 apply Z.out; clear Z K
 refine fp fun K Z => ?_
 go_simp
 try simp (disch := omega) only [Fact.wrap_u64]
 apply Z.out; clear Z K
 refine Za ?_
 refine Fact.nil (Zq4 0 1 4 5 hf ?_)
 clear hf sS bB; intro fr1 hf sS
 refine Zx hK2 ?_
 refine Fact.seq_meet (fun fr wq => ∃ b1, Fact.Fr 71 fr /\ fr.tmps[0]? = some (.pointer (some ⟨g, 0, none⟩)) /\ fr.tmps[1]? = some (.int .i64 i) /\ fr.tmps[4]? = some (.pointer (some ⟨w.heap.size, 0, none⟩)) /\ LW wq base g [.slice (some ⟨b, off, none⟩) ss.length cc, .int .u64 init] 91 b1 (l ++ headB s) /\ LF w g bv wq b1 /\ wq.cell? ⟨w.heap.size, 0, none⟩ = some (.slice A2 s.arcs.length c2)) ?_ ?_
 . (
 rcases hfin : s.final with _ | _
 . (
 have HFI := Lib.hid hfin
 rw [hfin] at x1
 clear hfin
 refine Ze fun _ hK3 => ?_
 refine Zr [21] hf ?_
 refine Zq5 0 1 4 5 22 hf ?_
 clear hf sS; intro fr1 hf sS
 refine Zx hK3 ?_
 refine Fact.cond_f sS.2.2.2.2 ?_
 refine rg ?_
 obtain ⟨b32, b33, b34, b35, b36⟩ := hf.B5 32 33 34 35 36
 iterate 4 refine Za ?_
 refine fp fun K Z => ?_
 go_simp
 obtain ⟨W4, hW4⟩ : ∃ x, W0.alloc (.cells #[.int .u64 (hd : Nat)] 35) = x := ⟨_, rfl⟩
 try rw [hW4]
 have hn36 : RN W4 W4.heap.size (.slice (some ⟨W0.heap.size, 0, none⟩) 1 1) [hd] := by rw [<- hW4]; exact rn_new W0 [hd] _
 have hx : Below W0.heap.size W0 W4 := by rw [<- hW4]; exact (Below.refl _ _).alloc (Nat.le_refl _) _
 clear hW4
 apply Z.out; clear Z K
 refine fp fun K Z => ?_
 go_simp
 go_at_call 35; refine (num29 W4 base g _ _ bv _ (hlw0.later hx) (by have := hb0.size; have := hx.size; omega) [hd] _ hn36 (by simp) (by have := HHD.out; intro x hx; simp at hx; omega) (by omega)).mono ?_; rintro e w2 ⟨rfl, b1, hl1, hf1⟩
 try dsimp only
 apply Z.out; clear Z K
 refine Fact.nil (Zq3 0 1 4 hf ?_)
 clear hf sS b32 b33 b34 b35 b36; intro fr1 hf sS
 have hf01 := (LF.of_below g bv hb0).trans ((LF.of_below g bv hx).trans hf1)
 have xa := hf1.cell (cL hx x0) (by intro e; have e : w.heap.size = g := e; omega) hoff0
 have hlh : LW w2 base g [.slice (some ⟨b, off, none⟩) ss.length cc, .int .u64 init] 91 b1 (l ++ headB s) := by have h9 := hl1; rw [<- HHD.out] at h9; unfold headB; rw [HFI.out]; exact h9
 refine Fact.then_normal ?_
 obtain ⟨s0, s1, s4⟩ := sS
 exact ⟨b1, hf, s0, s1, s4, hlh, hf01, xa⟩)
 . (
 have HFI := Lib.hid hfin
 rw [hfin] at x1
 clear hfin
 refine Ze fun _ hK4 => ?_
 refine Zr [21] hf ?_
 refine Zq5 0 1 4 5 22 hf ?_
 clear hf sS; intro fr1 hf sS
 refine Zx hK4 ?_
 refine Fact.cond_t sS.2.2.2.2 ?_
 obtain ⟨s0, s1, s4, s5, s22⟩ := sS
 refine Stab.tb 71 fun hok => ?_
 refine Stab.mO 0 s0 hf hok ?_
 refine Stab.T 1 hf hok (fun _ _ h d => Stab.vd 0 0 d []) ?_
 refine Stab.T 2 hf hok (fun _ _ h d => Stab.vd 1 0 d []) ?_
 refine Stab.mO 3 s5 hf hok ?_
 apply Stab.tq 4 _ hf hok
 . (
 intro fr1 w1 hh hd hk K Z
 have s26 := Stab.v 3 0 hd hk []
 clear hd
 go_simp
 try simp (disch := omega) only [Fact.W]
 rw [show ((hd : Nat) : Int) + 1 = ((h1 : Nat) : Int) by have := HH1.out; omega]
 exact Stab.k Z)
 refine Stab.T 5 hf hok (fun _ _ h d => Stab.O h s4) ?_
 refine Stab.T 6 hf hok (fun _ _ h d => ad (Stab.vd 5 0 d []) (cL h.ext x2)) ?_
 refine Stab.todo_op (k := 7) (n := 71) (RNs [h1, s.out]) hf.size hok.out rfl (RNs.stable _) ?_ ?_
 . (
 intro fr1 w1 hh hd hk K Z
 refine Stab.pl ?_
 have s27 := Stab.v 4 2 hd hk []
 have s29 := Stab.v 6 0 hd hk []
 clear hd
 go_simp
 exact Z.out _ rfl _ _ ((Below.refl _ _).alloc (Nat.le_refl _) _) (rn_new _ [h1, s.out] _))
 refine Tail.todo_tail (n := 71) (m := 8) (ws := [(8, 0, [2, 1]), (8, 1, [2]), (8, 3, [7, 4]), (8, 4, [7]), (8, 5, [7, 6]), (8, 6, [7])]) (by kernel_rfl) hf.size hok.out rfl rfl (by kernel_rfl) (fun fr1 w1 hh hg => ?_)
 replace s0 := Stab.O hh s0
 replace s1 := Stab.O hh s1
 replace s4 := Stab.O hh s4
 have s25 := Tail.got_is 2 5 hg rfl rfl rfl rfl rfl
 obtain ⟨x30, s30, hp30⟩ := Tail.got_use (j := 7) (m := 0) hg rfl rfl rfl rfl rfl
 have hn30 := hp30
 have hf1 := hh.fr hf
 have hx := hh.ext
 replace x2 := cL hx x2
 clear hg hh hf hok s5 s22
 have hf := hf1; clear hf1
 refine Tail.seq_op rfl rfl (fun K Z => ?_)
 go_simp
 go_at_call 35; refine (num29 _ base g _ _ bv _ (hlw0.later hx) (by have := hb0.size; have := hx.size; omega) [h1, s.out] _ hn30 (by simp) (by have := HH1.out; have := HHD.out; have := HOK.out.1; intro x hx; simp at hx; rcases hx with rfl | rfl <;> omega) (by omega)).mono ?_; rintro e w2 ⟨rfl, b1, hl1, hf1⟩
 try dsimp only
 apply Z.out; clear Z K
 refine Tail.seq_nil rfl ?_
 refine Zq3 0 1 4 hf ?_
 clear hf s0 s1 s4 s25 s30; intro fr1 hf sS
 have hf01 := (LF.of_below g bv hb0).trans ((LF.of_below g bv hx).trans hf1)
 have xa := hf1.cell (cL hx x0) (by intro e; have e : w.heap.size = g := e; omega) hoff0
 have hlh : LW w2 base g [.slice (some ⟨b, off, none⟩) ss.length cc, .int .u64 init] 91 b1 (l ++ headB s) := by have h9 := hl1; rw [<- HH1.out, <- HHD.out] at h9; unfold headB; rw [HFI.out]; exact h9
 refine Fact.then_normal ?_
 obtain ⟨s0, s1, s4⟩ := sS
 exact ⟨b1, hf, s0, s1, s4, hlh, hf01, xa⟩))
 . (
 clear hf sS
 rintro fr wq ⟨b1, hf, s0, s1, s4, hl1, hf1, x0⟩
 refine Ze fun _ hK5 => ?_
 refine Zr [38, 39] hf ?_
 refine Zq5 0 1 39 40 41 hf ?_
 clear hf s0 s1 s4; intro fr1 hf sS
 refine Zx hK5 ?_
 refine wp_block ?_
 refine wp_loop_ghost (fun gk fr wr => ∃ (k : Nat) (b1 : Value), gk = s.arcs.length - k /\ k <= s.arcs.length /\ Fact.Fr 71 fr /\ fr.tmps[0]? = some (.pointer (some ⟨g, 0, none⟩)) /\ fr.tmps[1]? = some (.int .i64 i) /\ fr.tmps[39]? = some (.slice A2 s.arcs.length c2) /\ fr.tmps[40]? = some (.int .i64 s.arcs.length) /\ fr.tmps[41]? = some (.int .i64 k) /\ LW wr base g [.slice (some ⟨b, off, none⟩) ss.length cc, .int .u64 init] 91 b1 (l ++ headB s ++ arcsB i (s.arcs.take k)) /\ LF w g bv wr b1) (s.arcs.length) ?_ ?_
 . (
 obtain ⟨s0, s1, s39, s40, s41⟩ := sS
 exact ⟨0, b1, rfl, Nat.zero_le _, hf, s0, s1, s39, s40, s41, by simpa [arcsB] using hl1, hf1⟩)
 . (
 clear hf sS
 rintro gk fr wr ⟨k, b1, hk, hki, hf, s0, s1, s39, s40, s41, hl1, hf1⟩
 have HK := Lib.hid hk; clear hk
 refine Ze fun _ hK6 => ?_
 refine Zr [] hf ?_
 refine Zq6 0 1 39 40 41 42 hf ?_
 clear hf s0 s1 s39 s40 s41; intro fr1 hf sS
 refine Zs hK6 fun _ hK7 => ?_
 refine Fact.cond_s sS.2.2.2.2.2 (fun hq => ?_) (fun hq => ?_)
 . (
 have hklt : k < s.arcs.length := by have h9 := of_decide_eq_true hq; omega
 clear hq
 obtain ⟨a, hka⟩ : ∃ a, s.arcs[k]? = some a := ⟨_, List.getElem?_eq_getElem hklt⟩
 have hbl := hf1.below hbase hgb hlw.lo
 obtain ⟨b3, off3, rfl, hb3, y0, y1, y2⟩ := (hra.but (below_but (hbl.mono (Nat.le_refl _) |> fun h => below_less h hN)) (fun k h1 h2 => by omega)).at' hka
 have hao := HOK.out.2.2 a (List.mem_of_getElem? hka)
 have hat := HTO.out a (List.mem_of_getElem? hka)
 obtain ⟨q, hq⟩ : ∃ q : Nat, a.to = (q : Int) := ⟨a.to.toNat, by omega⟩
 rw [hq] at y2
 obtain ⟨dd, hdd⟩ : ∃ x, i - q = x := ⟨_, rfl⟩
 have hdb2 : dd <= 1000000 := by omega
 have hst := arcsB_take (i := i) hka
 have hlen : (arcsB i (s.arcs.take k)).length <= 19 * s.arcs.length := arcsB_le i k (fun x hx => HOK.out.2.2 x hx) (by omega)
 have hhl := headB_le HOK.out.1 (by omega : s.arcs.length <= 1000)
 obtain ⟨l1, hl1e⟩ : ∃ x, l ++ headB s ++ arcsB i (s.arcs.take k) = x := ⟨_, rfl⟩
 have hll1 : l1.length <= l.length + 18 + 19 * s.arcs.length := by rw [<- hl1e]; simp only [List.length_append]; omega
 rw [hl1e] at hl1
 have hte : a.to.toNat = q := by omega
 have hab := hao.1; have hao2 := hao.2.1
 have hqi : q < i := by have := hat.2; omega
 have HST := Lib.hid hst; have HL1 := Lib.hid hl1e; have HDD := Lib.hid hdd; have HTE := Lib.hid hte; clear hst hl1e hdd hte hka hao hat hlen hhl hq
 refine wp_skip ?_
 refine Zs hK7 fun _ hK8 => ?_
 refine wp_block ?_
 refine Ze fun _ hK9 => ?_
 refine Zr [43, 44, 7] hf ?_
 refine Zq6 0 1 7 39 40 41 hf ?_
 clear hf sS; intro fr1 hf sS
 obtain ⟨W7, hW7⟩ : ∃ W0, wr.alloc (.cells #[.int .u8 a.byte, .int .u64 a.out, .int .i64 (q : Nat)] 71) = W0 := ⟨_, rfl⟩
 try rw [hW7]
 obtain ⟨hb7, z0, z1, z2, -, hz7_⟩ := box3 hW7
 clear hW7
 have hz7 : wr.heap.size < W7.heap.size := by rw [hz7_]; exact Nat.lt_succ_self _
 clear hz7_
 clear y0 y1 y2
 have hl7 := hl1.later hb7
 have hf7 := LF.of_below g b1 hb7
 have hoff7 : b1.ownBlock ≠ some wr.heap.size := fun e => by have := (World.ownsRow.lt hl1.2.1 _ e).2; omega
 have hgr := heap_lt hl1.1
 have hxg := hl7.1
 have how7 := hl7.2.1
 have hne7 := hl7.2.2
 have hg7 := heap_lt hxg
 have hbw7 : base <= W7.heap.size := by have := hf1.1.size; have := hb7.size; omega
 refine Zs hK9 fun _ hK10 => ?_
 obtain ⟨s0, s1, s7, s39, s40, s41⟩ := sS
 refine Stam.todo_begin (n := 71) (fun _ k => k = g \/ b1.ownBlock = some k) [9, 13] (Stab.OkOps.of (by kernel_rfl)) (fun hok => ?_)
 refine Stam.mvO (k := 0) s0 hf.size hok.out rfl (by kernel_rfl) rfl rfl (.inl rfl) (by kernel_rfl) ?_
 refine Stam.mvO (k := 1) s0 hf.size hok.out rfl (by kernel_rfl) rfl rfl (.inl rfl) (by kernel_rfl) ?_
 apply Stam.tq 2 _ hf hok
 . (
 intro fr1 w1 hh hd hk K Z
 refine Stab.pl ?_
 have s46 := Stam.v 1 0 hd hk []
 have hxe := Stam.ext_at hh [(9, [5, 4, 3]), (13, [])] (by kernel_rfl)
 have hbt := Stam.but_at hh [] [(9, [5, 4, 3]), (13, [])] (by kernel_rfl)
 clear hd hh
 go_simp
 exact Stab.k Z)
 apply Stam.tq 3 _ hf hok
 . (
 intro fr1 w1 hh hd hk K Z
 refine Stab.pl ?_
 have s47 := Stam.v 2 0 hd hk []
 have hxe := Stam.ext_at hh [(9, [5, 4]), (13, [])] (by kernel_rfl)
 have hbt := Stam.but_at hh [] [(9, [5, 4]), (13, [])] (by kernel_rfl)
 clear hd hh
 go_simp
 exact Stab.k Z)
 apply Stam.tq 4 _ hf hok
 . (
 intro fr1 w1 hh hd hk K Z
 refine Stab.pl ?_
 have s48 := Stam.v 3 0 hd hk []
 have hxe := Stam.ext_at hh [(9, [5]), (13, [])] (by kernel_rfl)
 have hbt := Stam.but_at hh [] [(9, [5]), (13, [])] (by kernel_rfl)
 clear hd hh
 go_simp
 exact Stab.k Z)
 apply Stam.tq 5 _ hf hok
 . (
 intro fr1 w1 hh hd hk K Z
 refine Stab.pl ?_
 have s49 := Stam.v 4 0 hd hk []
 have hxe := Stam.ext_at hh [(9, []), (13, [])] (by kernel_rfl)
 have hbt := Stam.but_at hh [] [(9, []), (13, [])] (by kernel_rfl)
 clear hd hh
 have u0 := cell_of_row _ _ 0 _ 91 (0, 0) ((hxe.block g hg7).trans hxg)
 simp at u0
 go_simp
 exact Stab.k Z)
 apply Stam.tq 6 _ hf hok
 . (
 intro fr1 w1 hh hd hk K Z
 refine Stab.pl ?_
 have s7 := Stam.o hh (by kernel_rfl) s7
 have hxe := Stam.ext_at hh [(9, [8, 7]), (13, [])] (by kernel_rfl)
 have hbt := Stam.but_at hh [] [(9, [8, 7]), (13, [])] (by kernel_rfl)
 clear hd hh
 go_simp
 exact Stab.k Z)
 apply Stam.tq 7 _ hf hok
 . (
 intro fr1 w1 hh hd hk K Z
 refine Stab.pl ?_
 have s51 := Stam.v 6 0 hd hk []
 have hxe := Stam.ext_at hh [(9, [8]), (13, [])] (by kernel_rfl)
 have hbt := Stam.but_at hh [] [(9, [8]), (13, [])] (by kernel_rfl)
 clear hd hh
 have u1 := cL hxe z0
 go_simp
 exact Stab.k Z)
 refine Stam.todo_op (k := 8) (n := 71) (PLit [.int .u8 (a.byte : Nat)]) hf.size hok.out rfl (PLit.stable _) (by kernel_rfl) ?_ ?_
 . (
 intro fr1 w1 hh hd hk K Z
 refine Stab.pl ?_
 have s52 := Stam.v 7 0 hd hk []
 have hxe := Stam.ext_at hh [(9, []), (13, [])] (by kernel_rfl)
 have hbt := Stam.but_at hh [] [(9, []), (13, [])] (by kernel_rfl)
 clear hd hh
 go_simp
 exact Z.out _ rfl _ _ ((Below.refl _ _).alloc (Nat.le_refl _) _) ⟨_, rfl, lit_new _ _ _⟩)
 refine Stam.todo_sp (k := 9) (n := 71) (PRowN W7 base g b1 [.slice (some ⟨b, off, none⟩) ss.length cc, .int .u64 init] 91 (l1 ++ [a.byte])) hf.size hok.out rfl (PRowN.stable _ _ _ _ _ _ _) (by kernel_rfl) ?_ ?_
 . (
 intro fr1 w1 hh hd hk K Z
 refine Stab.pl ?_
 have s50 := Stam.v 5 3 hd hk []
 obtain ⟨x53, s53, hp53⟩ := Stam.use (j := 8) (m := 0) hd hk rfl [] (by kernel_rfl) [(13, true, [])] (by kernel_rfl) rfl rfl rfl
 obtain ⟨b53, rfl, hc53⟩ := hp53
 have hxe := Stam.ext_at hh [(13, [])] (by kernel_rfl)
 have hbt := Stam.but_at hh [] [(13, [])] (by kernel_rfl)
 clear hd hh
 have how2 := own_later how7 hxe
 have hx2 := (hxe.block g hg7).trans hxg
 refine wp_app _ _ 31 rfl 5 _ 1 1 Tryz.underlying31 info_u8 rfl (by decide) (by decide) base b1 l1.length (bcs l1) (Fact.eval_tmp s50) how2 b53 [.int .u8 (a.byte : Nat)] (Fact.eval_tmp s53) rfl hc53 (by intro u hu; simp at hu; subst hu; rfl) (by omega) (by have := hxe.size; omega) (fun v2 w2 hr3 hg3 hat3 => ?_)
 exact Z.out _ rfl _ _ (But.grown hg3 (fun k hk => .inr hk)) ⟨by unfold OB; rw [List.length_append, bcs_append]; exact hr3, hat3.imp id (fun h => ⟨_, h, hxe.size⟩), (hg3.block g (heap_lt hx2) (fun e => hne7 e.symm)).trans hx2⟩)
 apply Stam.tq 10 _ hf hok
 . (
 intro fr1 w1 hh hd hk K Z
 refine Stab.pl ?_
 have s45 := Stam.v 0 9 hd hk []
 have hbt := Stam.but_at hh [9] [(13, [12, 11])] (by kernel_rfl)
 clear hd hh
 go_simp
 exact Stab.k Z)
 apply Stam.tq 11 _ hf hok
 . (
 intro fr1 w1 hh hd hk K Z
 refine Stab.pl ?_
 have s55 := Stam.v 10 0 hd hk []
 have hbt := Stam.but_at hh [9] [(13, [12])] (by kernel_rfl)
 clear hd hh
 go_simp
 exact Stab.k Z)
 apply Stam.tq 12 _ hf hok
 . (
 intro fr1 w1 hh hd hk K Z
 refine Stab.pl ?_
 have s56 := Stam.v 11 0 hd hk []
 have hbt := Stam.but_at hh [9] [(13, [])] (by kernel_rfl)
 clear hd hh
 go_simp
 exact Stab.k Z)
 refine Stam.todo_sp (k := 13) (n := 71) (PEndN W7 base g b1 [.slice (some ⟨b, off, none⟩) ss.length cc, .int .u64 init] 91 (l1 ++ [a.byte])) hf.size hok.out rfl (PEndN.stable _ _ _ _ _ _ _) (by kernel_rfl) ?_ ?_
 . (
 intro fr1 w1 hh hd hk K Z
 refine Stab.pl ?_
 have s57 := Stam.v 12 0 hd hk []
 obtain ⟨x54, s54, hp54⟩ := Stam.use (j := 9) (m := 3) hd hk rfl [] (by kernel_rfl) [] (by kernel_rfl) rfl rfl rfl
 obtain ⟨hr54, hl54, hx54⟩ := hp54
 have hbt := Stam.but_at hh [9] [] (by kernel_rfl)
 clear hd hh
 have z00 := cell_of_row _ _ 0 _ 91 (0, 0) hx54
 simp at z00
 have fz := frozen_of (i := 0) hx54
 obtain ⟨A9, c9, hv9, _⟩ := row_form hr54
 subst hv9
 go_simp
 refine Z.out _ rfl undef _ (But.setCell (.inl rfl) _) ⟨_, own_but hr54 (But.setCell (S := fun k => k = g) rfl _) (fun kk hkk e => by subst e; exact PRowN.ne ⟨hr54, hl54, hx54⟩ hne7 hg7 hkk), hl54, (set_block (i := 0) hx54 _).trans (by simp)⟩)
 refine Stam.todo_facts (n := 71) (by kernel_rfl) hf.size hok.out rfl (fun fr1 w1 hh hg => ?_)
 replace s0 := Stam.o hh (by kernel_rfl) s0
 replace s1 := Stam.o hh (by kernel_rfl) s1
 replace s7 := Stam.o hh (by kernel_rfl) s7
 replace s39 := Stam.o hh (by kernel_rfl) s39
 replace s40 := Stam.o hh (by kernel_rfl) s40
 replace s41 := Stam.o hh (by kernel_rfl) s41
 obtain ⟨_, hlast⟩ := Stam.end_fact (j := 13) (m := 0) hg rfl (by decide) [(9, [])] (by kernel_rfl) rfl
 have hf1 := hh.fr hf
 have hbt := hh.but
 clear hg hh hf hok
 have hf := hf1; clear hf1
 obtain ⟨v6, hr6, hl6, hx6⟩ := hlast
 replace hbt := hbt (fun k => k = g \/ b1.ownBlock = some k) (fun m _ b h => h)
 have hl8 : LW w1 base g [.slice (some ⟨b, off, none⟩) ss.length cc, .int .u64 init] 91 v6 (l1 ++ [a.byte]) := ⟨hx6, hr6, PEndN.ne hl6 hne7 hg7⟩
 have hf8 : LF W7 g b1 w1 v6 := ⟨hbt, hl6⟩
 have u1 := hf8.cell z1 (by intro e; have e : wr.heap.size = g := e; omega) hoff7
 have u2 := hf8.cell z2 (by intro e; have e : wr.heap.size = g := e; omega) hoff7
 have hf08 := hf1.trans (hf7.trans hf8)
 clear z0 z1 z2 hx6 hr6 hl6 hbt hl7 hxg how7
 refine Zx hK10 ?_
 refine Stab.tb 71 fun hok => ?_
 refine Stab.mO 0 s0 hf hok ?_
 refine Stab.T 1 hf hok (fun _ _ h d => Stab.vd 0 0 d []) ?_
 refine Stab.T 2 hf hok (fun _ _ h d => Stab.vd 1 0 d []) ?_
 refine Stab.T 3 hf hok (fun _ _ h d => Stab.O h s7) ?_
 refine Stab.T 4 hf hok (fun _ _ h d => ad (Stab.vd 3 0 d []) (ad (cL h.ext u1) (cL h.ext u2))) ?_
 refine Stab.mO 5 s1 hf hok ?_
 refine Stab.T 6 hf hok (fun _ _ h d => Stab.O h s7) ?_
 refine Stab.T 7 hf hok (fun _ _ h d => ad (Stab.vd 6 0 d []) (ad (cL h.ext u1) (cL h.ext u2))) ?_
 apply Stab.tq 8 _ hf hok
 . (
 intro fr1 w1 hh hd hk K Z
 have s63 := Stab.v 5 2 hd hk []
 have s65 := Stab.v 7 0 hd hk []
 clear hd
 go_simp
 try simp (disch := omega) only [Fact.W]
 rw [show ((i : Nat) : Int) - (q : Nat) = ((dd : Nat) : Int) by have := HDD.out; omega]
 exact Stab.k Z)
 apply Stab.tq 9 _ hf hok
 . (
 intro fr1 w1 hh hd hk K Z
 have s66 := Stab.v 8 0 hd hk []
 clear hd
 go_simp
 try simp (disch := omega) only [Fact.wrap_u64]
 exact Stab.k Z)
 refine Stab.todo_op (k := 10) (n := 71) (RNs [a.out, dd]) hf.size hok.out rfl (RNs.stable _) ?_ ?_
 . (
 intro fr1 w1 hh hd hk K Z
 refine Stab.pl ?_
 have s62 := Stab.v 4 5 hd hk []
 have s67 := Stab.v 9 0 hd hk []
 clear hd
 go_simp
 exact Z.out _ rfl _ _ ((Below.refl _ _).alloc (Nat.le_refl _) _) (rn_new _ [a.out, dd] _))
 refine Tail.todo_tail (n := 71) (m := 11) (ws := [(11, 0, [2, 1]), (11, 1, [2]), (11, 3, [10, 4]), (11, 4, [10]), (11, 5, [10, 9, 8]), (11, 6, [10, 9, 8, 7]), (11, 7, [10, 9, 8]), (11, 8, [10, 9]), (11, 9, [10])]) (by kernel_rfl) hf.size hok.out rfl rfl (by kernel_rfl) (fun fr1 w1 hh hg => ?_)
 replace s0 := Stab.O hh s0
 replace s1 := Stab.O hh s1
 replace s39 := Stab.O hh s39
 replace s40 := Stab.O hh s40
 replace s41 := Stab.O hh s41
 have s60 := Tail.got_is 2 8 hg rfl rfl rfl rfl rfl
 obtain ⟨x68, s68, hp68⟩ := Tail.got_use (j := 10) (m := 0) hg rfl rfl rfl rfl rfl
 have hn68 := hp68
 have hf1 := hh.fr hf
 have hx := hh.ext
 replace u1 := cL hx u1
 replace u2 := cL hx u2
 clear hg hh hf hok s7
 have hf := hf1; clear hf1
 refine Tail.seq_op rfl rfl (fun K Z => ?_)
 go_simp
 go_at_call 35; refine (num29 _ base g _ _ v6 _ (hl8.later hx) (by have := hf08.1.size; have := hx.size; omega) [a.out, dd] _ hn68 (by simp) (by have := HDD.out; intro x hx; simp at hx; rcases hx with rfl | rfl <;> omega) (by simp; omega)).mono ?_; rintro e w9 ⟨rfl, v9, hl9, hf9⟩
 try dsimp only
 apply Z.out; clear Z K
 refine Tail.seq_nil rfl ?_
 refine Zq5 0 1 39 40 41 hf ?_
 clear hf s0 s1 s39 s40 s41 s60 s68; intro fr1 hf sS
 have hf09 := hf08.trans ((LF.of_below g v6 hx).trans hf9)
 have hl99 : LW w9 base g [.slice (some ⟨b, off, none⟩) ss.length cc, .int .u64 init] 91 v9 (l ++ headB s ++ arcsB i (s.arcs.take (k + 1))) := by have h9 := hl9; rw [List.append_assoc, show [a.byte] ++ numsB [a.out, dd] = arcB i a by unfold arcB; rw [HTE.out, HDD.out]; rfl, <- HL1.out] at h9; rw [HST.out]; simpa [List.append_assoc] using h9
 refine Fact.block_normal ?_
 refine Zx hK8 ?_
 refine Zr [70] hf ?_
 refine Zq5 0 1 39 40 41 hf ?_
 clear hf sS; intro fr1 hf sS
 refine Fact.then_normal ?_
 obtain ⟨s0, s1, s39, s40, s41⟩ := sS
 exact ⟨_, by have := HK.out; omega, k + 1, v9, rfl, by omega, hf, s0, s1, s39, s40, by rw [s41]; rfl, hl99, hf09⟩)
 . (
 have hke : k = s.arcs.length := by have h9 := of_decide_eq_false hq; omega
 have HKE := Lib.hid hke; clear hke hq
 refine Zo ?_
 refine Fact.end0 rfl hf ⟨rfl, b1, ?_, hf1⟩
 have h9 := hl1
 rw [HKE.out, List.take_length, List.append_assoc] at h9
 exact h9)))
def statesB : Nat -> List State -> List Nat
 | _, [] => []
 | i, s :: l => stB i s ++ statesB (i + 1) l
def bodyB (en : Nat) (init : Nat) (ss : List State) : List Nat := [67, 83, 1] ++ numsB [en, ss.length] ++ statesB 0 ss ++ numsB [init]
def putR (en : Int) (init : Nat) (ss : List State) : List Nat × Nat := if mayF en ss then (Crc.seal' (bodyB en.toNat init ss), 0) else ([], 2)
theorem may_out {en : Int} {ss : List State} (h : mayF en ss = true) : 0 <= en /\ en <= 100000 /\ 0 < ss.length /\ mayL 0 ss = true := by
 unfold mayF at h
 simp at h
 exact ⟨h.1.1.1, h.1.1.2, by omega, h.2⟩
theorem mayL_at : ∀ {l : List State} {k i : Nat} {s : State}, mayL k l = true -> l[i]? = some s -> s.arcs.length <= 256 /\ ∀ a ∈ s.arcs, 0 <= a.to /\ a.to < ((k + i : Nat) : Int)
 | s :: l, k, 0, x, h, hi => by
  simp only [List.getElem?_cons_zero, Option.some.injEq] at hi
  subst hi
  simp only [mayL, Bool.and_eq_true, decide_eq_true_eq] at h
  refine ⟨h.1.1.1, ?_⟩
  have key : ∀ l : List Arc, okTo k l = true -> ∀ a ∈ l, 0 <= a.to /\ a.to < (k : Int) := by
   intro l
   induction l with
   | nil => intro _ a ha; cases ha
   | cons b l ih =>
    intro h1 a ha
    simp only [okTo, Bool.and_eq_true, decide_eq_true_eq] at h1
    rcases List.mem_cons.1 ha with rfl | ha
    ·exact h1.1
    ·exact ih h1.2 a ha
  exact key _ h.1.2
 | s :: l, k, i + 1, x, h, hi => by
  simp only [mayL, Bool.and_eq_true] at h
  have h9 := mayL_at (i := i) (s := x) h.2 (by simpa using hi)
  rw [show k + (i + 1) = k + 1 + i by omega]
  exact h9
theorem statesB_append : ∀ (a b : List State) (k : Nat), statesB k (a ++ b) = statesB k a ++ statesB (k + a.length) b
 | [], b, k => by simp [statesB]
 | s :: a, b, k => by
  simp only [List.cons_append, statesB, List.length_cons]
  rw [statesB_append a b (k + 1), List.append_assoc, show k + 1 + a.length = k + (a.length + 1) by omega]
theorem statesB_take {l : List State} {i : Nat} {s : State} (h : l[i]? = some s) : statesB 0 (l.take (i + 1)) = statesB 0 (l.take i) ++ stB i s := by
 have hl := (List.getElem?_eq_some_iff.1 h).1
 rw [List.take_add_one, h, statesB_append]
 simp [statesB]
 congr 1
 omega
theorem stB_le {i : Nat} {s : State} (h : okS s) (h2 : s.arcs.length <= 256) (hi : i <= 1000000) : (stB i s).length <= 4882 := by
 have h1 := headB_le h.1 (by omega)
 have h3 := arcsB_len hi s.arcs h.2.2
 unfold stB
 simp only [List.length_append]
 omega
theorem statesB_len : ∀ (l : List State) (k : Nat), (∀ s ∈ l, okS s) -> mayL k l = true -> k + l.length <= 1000000 -> (statesB k l).length <= 4882 * l.length
 | [], _, _, _, _ => by simp [statesB]
 | s :: l, k, h, hm, hk => by
  have h1 := mayL_at (i := 0) hm rfl
  simp only [mayL, Bool.and_eq_true] at hm
  simp only [List.length_cons] at hk
  have h2 := stB_le (i := k) (h s (List.mem_cons_self ..)) h1.1 (by omega)
  have h3 := statesB_len l (k + 1) (fun x hx => h x (List.mem_cons_of_mem _ hx)) hm.2 (by omega)
  simp only [statesB, List.length_append, List.length_cons]
  omega
theorem mayL_take : ∀ (l : List State) (k i : Nat), mayL k l = true -> mayL k (l.take i) = true
 | _, _, 0, _ => by simp [mayL]
 | [], _, i + 1, _ => by simp [mayL]
 | s :: l, k, i + 1, h => by
  simp only [mayL, Bool.and_eq_true, List.take_succ_cons] at h |-
  exact ⟨h.1, mayL_take l (k + 1) i h.2⟩
theorem statesB_le {l : List State} (h : ∀ s ∈ l, okS s) (hm : mayL 0 l = true) (hk : l.length <= 1000000) (i : Nat) : (statesB 0 (l.take i)).length <= 4882 * l.length := by
 have h2 : (l.take i).length <= l.length := by simp; omega
 have h1 := statesB_len (l.take i) 0 (fun s hs => h s (List.mem_of_mem_take hs)) (mayL_take l 0 i hm) (by omega)
 omega
theorem arcsB_small {i : Nat} (hi : i <= 1000000) {l : List Arc} (h : ∀ a ∈ l, okA a) : Small (arcsB i l) := fun x hx => by
 obtain ⟨a, ha, hx⟩ := List.mem_flatMap.1 hx
 have h1 := h a ha
 rcases List.mem_cons.1 hx with rfl | hx
 ·exact h1.1
 ·exact numsB_small (by intro y hy; simp at hy; have := h1.2.1; unfold M64; rcases hy with rfl | rfl <;> omega) x hx
theorem stB_small {i : Nat} {s : State} (h : okS s) (h2 : s.arcs.length <= 256) (hi : i <= 1000000) : Small (stB i s) := by
 refine Small.append ?_ (arcsB_small hi h.2.2)
 refine numsB_small (fun y hy => ?_)
 have := h.1
 unfold M64
 split at hy <;> simp at hy <;> (try rcases hy with rfl | rfl) <;> omega
theorem statesB_small : ∀ (l : List State) (k : Nat), (∀ s ∈ l, okS s) -> mayL k l = true -> k + l.length <= 1000000 -> Small (statesB k l)
 | [], _, _, _, _ => Small.nil
 | s :: l, k, h, hm, hk => by
  have h1 := mayL_at (i := 0) hm rfl
  simp only [mayL, Bool.and_eq_true] at hm
  simp only [List.length_cons] at hk
  exact (stB_small (h s (List.mem_cons_self ..)) h1.1 (by omega)).append (statesB_small l (k + 1) (fun x hx => h x (List.mem_cons_of_mem _ hx)) hm.2 (by omega))
theorem bodyB_small {n init : Nat} {ss : List State} (h : ∀ s ∈ ss, okS s) (hm : mayL 0 ss = true) (hl : ss.length <= 100000) (hn : n <= 100000) (hi : init < 18446744073709551616) : Small (bodyB n init ss) := by
 refine ((Small.append (by intro x hx; simp at hx; omega) (numsB_small (by intro y hy; simp at hy; unfold M64; rcases hy with rfl | rfl <;> omega))).append (statesB_small ss 0 h hm (by omega))).append (numsB_small (by intro y hy; simp at hy; unfold M64; omega))
theorem put14 (w : World) (en : Int) (sv : Value) (init : Nat) (ss : List State) (hrs : RS w sv ss) (hok : ∀ s ∈ ss, okS s) (hlen : ss.length <= 100000) (hfew : ∀ s ∈ ss, s.arcs.length <= 1000) (hinit : init < 18446744073709551616) : Calls Tryz.prog 14 #[.int .i64 en, .agg #[sv, .int .u64 init]] w fun e w1 => e = .returned (.tuple #[.string (bl (putR en init ss).1), .int .i64 (putR en init ss).2]) /\ Below w.heap.size w w1 := by
 refine Zn2 60 Tryz.func14 fun fr hf s0 s1 => ?_
 have hrn := hrs.n
 obtain ⟨A, cc, rfl, hcc⟩ := hrs.form
 have HO := Lib.hid hok; have HF := Lib.hid hfew; clear hok hfew
 have hM : M64 = 18446744073709551616 := rfl
 have hrs1 := hrs
 refine Ze fun _ hK1 => ?_
 refine Zr [] hf ?_
 refine Zq2 0 3 hf ?_
 clear hf s0 s1; intro fr1 hf sS
 obtain ⟨W0, hW0⟩ : ∃ W0, w.alloc (.cells #[.slice A ss.length cc, .int .u64 init] 38) = W0 := ⟨_, rfl⟩
 try rw [hW0]
 obtain ⟨hb0, c0, c1, -, hz0_⟩ := box2 hW0
 clear hW0
 have hz0 : w.heap.size < W0.heap.size := by rw [hz0_]; exact Nat.lt_succ_self _
 clear hz0_
 have hr0 := hrs.later hb0
 clear hrs
 refine Zs hK1 fun _ hK2 => ?_
 refine Ze fun _ hK3 => rg ?_
 have bB := hf.B3 8 9 10
 iterate 2 refine Za ?_
 refine fp fun K Z => ?_
 go_simp
 go_at_call 34; refine (may28 W0 en _ init ss hr0 HO.out (by omega) HF.out).mono ?_; rintro e w1 ⟨rfl, hb1⟩
 try dsimp only
 apply Z.out; clear Z K
 refine Za ?_
 refine Fact.nil (Zq3 0 3 11 hf ?_)
 clear hf sS bB; intro fr1 hf sS
 have e0 := cL hb1 c0
 have e1 := cL hb1 c1
 have hbz := hb0.trans (hb1.mono hb0.size)
 clear c0 c1 hr0
 refine Zx hK3 ?_
 rcases hmy : mayF en ss with _ | _
 . (
 have HM := Lib.hid hmy
 obtain ⟨s0, s3, s11⟩ := sS
 rw [hmy] at s11
 simp only [Bool.not_false, Bool.not_true] at s11
 clear hmy
 refine Fact.cond_t s11 ?_
 refine Ze fun _ hK4 => ?_
 refine Zr [] hf ?_
 refine Zq2 4 5 hf ?_
 clear hf s0 s3 s11; intro fr1 hf sS
 refine Zx hK4 ?_
 refine Zret ?_
 exact Fact.ret2 rfl hf sS.1 sS.2 ⟨by unfold putR; rw [HM.out]; rfl, hbz⟩)
 . (
 have HM := Lib.hid hmy
 obtain ⟨s0, s3, s11⟩ := sS
 rw [hmy] at s11
 simp only [Bool.not_false, Bool.not_true] at s11
 clear hmy
 refine Fact.cond_f s11 ?_
 obtain ⟨he0, he1, hs0, hml⟩ := may_out HM.out
 obtain ⟨n, hn⟩ : ∃ n : Nat, en = (n : Int) := ⟨en.toNat, by omega⟩
 subst hn
 have hrw := hrn.below hbz
 have HML := Lib.hid hml; clear hml hrn hrs1
 have hen : n <= 100000 := by omega
 have HNE := Lib.hid (show (n : Int).toNat = n by omega)
 clear he0 he1
 refine wp_skip ?_
 refine Zs hK2 fun _ hK5 => ?_
 refine Zr [12, 13, 14] hf ?_
 refine Zq3 0 3 6 hf ?_
 clear hf s0 s3 s11; intro fr1 hf sS
 obtain ⟨g, hg⟩ : ∃ x, w1.heap.size = x := ⟨_, rfl⟩
 obtain ⟨W3, hW3⟩ : ∃ x, w1.alloc (.cells #[.slice none 0 0, .slice A ss.length cc, .int .u64 init] 91) = x := ⟨_, rfl⟩
 try rw [hW3]
 obtain ⟨s0, s3, s6⟩ := sS
 try rw [hg] at s6
 have hb3 : Below w1.heap.size w1 W3 := by rw [<- hW3]; exact (Below.refl _ _).alloc (Nat.le_refl _) _
 have hx3 : W3.heap[g]? = some (.cells #[.slice none 0 0, .slice A ss.length cc, .int .u64 init] 91 (0, 0)) := by rw [<- hW3, <- hg]; exact heap_alloc_new w1 _
 have hg3 : g < W3.heap.size := heap_lt hx3
 have hl3 : LW W3 g g [.slice A ss.length cc, .int .u64 init] 91 (.slice none 0 0) [] := ⟨hx3, OB.nil_ _ _, by intro e; cases e⟩
 have y0 := cL hb3 e0; have y1 := cL hb3 e1
 have hrg := hrw.below ((hb3.mono hbz.size) : Below w.heap.size w1 W3)
 have hwg : w.heap.size <= g := by rw [<- hg]; exact hbz.size
 have hwg2 : w.heap.size < g := by rw [<- hg]; have := hb1.size; omega
 have hgs := Nat.le_of_lt hg3
 have hbz3 := hbz.trans (hb3.mono hbz.size)
 clear hW3 hg e0 e1 hrw hb3
 have hrg0 := Lib.hid hrg
 have HY1 := Lib.hid y1; clear y1
 refine Zt hK5 fun _ hK6 => ?_
 have bB := hf.B10 15 16 17 18 19 20 21 22 23 24
 iterate 5 refine Za ?_
 have u0 := cell_of_row _ _ 0 _ 91 (0, 0) hx3
 simp at u0
 refine Za ?_
 clear bB
 refine Fact.reL (n := 60) (by simp only [Fact.G, hf.size]) hf.defers (fun fr1 hf1 hT => ?_)
 have hKp := Fact.h5 hT 0 3 6 15 20
 simp (decide := true) only [Fact.G, hf.size, reduceIte, s0, s3, s6] at hKp
 replace hf := hf1; clear hT hf1 s0 s3 s6
 obtain ⟨s0, s3, s6, s15, s20⟩ := hKp
 have bB := hf.B4 21 22 23 24
 refine ⟨?_⟩
 refine wpList_plain rfl fun KL hKL => ?_
 refine wp_appstr _ _ rfl g (.slice none 0 0) [] (Fact.eval_tmp s20) hl3.2.1 (bl [67, 83, 1]) (by rw [show bl [67, 83, 1] = ⟨#[67, 83, 1]⟩ by decide]; rfl) (by rw [bl_size]; simp) (by omega) (fun v4 w4 hr4 hg4 hat4 => hKL _ _ ?_)
 rw [wl_bl (by intro x hx; simp at hx; omega), List.nil_append] at hr4
 refine Fact.L.out ?_
 iterate 3 refine Za ?_
 have hx4 := (hg4.block g hg3 (by intro e; cases e)).trans hx3
 have u1 := cell_of_row _ _ 0 _ 91 (0, 0) hx4
 simp at u1
 have fz := frozen_of (i := 0) hx4
 obtain ⟨A9, c9, hv9, _⟩ := row_form hr4
 rw [show ([67, 83, 1] : List Nat).length = 3 from rfl] at hv9
 subst hv9
 refine Za ?_
 refine Fact.nil (Zq3 0 3 6 hf ?_)
 clear hf s0 s3 s6 s15 s20 bB; intro fr1 hf sS
 obtain ⟨hl5, hf5⟩ := hl3.step (Below.refl _ _) hr4 hg4 hat4 (Nat.le_refl _)
 obtain ⟨W5, hW5⟩ : ∃ x, w4.setCell ⟨g, 0, none⟩ (.slice A9 3 c9) = x := ⟨_, rfl⟩
 try rw [hW5]
 rw [hW5] at hl5 hf5
 have HY0 := Lib.hid y0
 replace y0 := ((hf5.below hgs (Nat.le_refl g) hl3.lo).cell (p := ⟨w.heap.size, 0, none⟩) hwg2).trans HY0.out
 refine Zs hK6 fun _ hK7 => ?_
 obtain ⟨s0, s3, s6⟩ := sS
 refine Stab.tb 60 fun hok => ?_
 refine Stab.mO 0 s6 hf hok ?_
 refine Stab.T 1 hf hok (fun _ _ h d => Stab.vd 0 0 d []) ?_
 refine Stab.T 2 hf hok (fun _ _ h d => Stab.vd 1 0 d []) ?_
 refine Stab.mO 3 s0 hf hok ?_
 apply Stab.tq 4 _ hf hok
 . (
 intro fr1 w1 hh hd hk K Z
 have s28 := Stab.v 3 0 hd hk []
 clear hd
 go_simp
 try simp (disch := omega) only [Fact.wrap_u64]
 exact Stab.k Z)
 refine Stab.T 5 hf hok (fun _ _ h d => Stab.O h s3) ?_
 refine Stab.T 6 hf hok (fun _ _ h d => ad (Stab.vd 5 0 d []) (cL h.ext y0)) ?_
 refine Stab.T 7 hf hok (fun _ _ h d => ad (Stab.vd 6 0 d []) (cL h.ext y0)) ?_
 apply Stab.tq 8 _ hf hok
 . (
 intro fr1 w1 hh hd hk K Z
 have s32 := Stab.v 7 0 hd hk []
 clear hd
 go_simp
 try simp (disch := omega) only [Fact.wrap_u64]
 exact Stab.k Z)
 refine Stab.todo_op (k := 9) (n := 60) (RNs [n, ss.length]) hf.size hok.out rfl (RNs.stable _) ?_ ?_
 . (
 intro fr1 w1 hh hd hk K Z
 refine Stab.pl ?_
 have s29 := Stab.v 4 4 hd hk []
 have s33 := Stab.v 8 0 hd hk []
 clear hd
 go_simp
 exact Z.out _ rfl _ _ ((Below.refl _ _).alloc (Nat.le_refl _) _) (rn_new _ [n, ss.length] _))
 refine Tail.todo_tail (n := 60) (m := 10) (ws := [(10, 0, [2, 1]), (10, 1, [2]), (10, 3, [9, 4]), (10, 4, [9]), (10, 5, [9, 8, 7, 6]), (10, 6, [9, 8, 7]), (10, 7, [9, 8]), (10, 8, [9])]) (by kernel_rfl) hf.size hok.out rfl rfl (by kernel_rfl) (fun fr1 w1 hh hg => ?_)
 replace s3 := Stab.O hh s3
 replace s6 := Stab.O hh s6
 have s27 := Tail.got_is 2 7 hg rfl rfl rfl rfl rfl
 obtain ⟨x34, s34, hp34⟩ := Tail.got_use (j := 9) (m := 0) hg rfl rfl rfl rfl rfl
 have hn34 := hp34
 have hf1 := hh.fr hf
 have hx := hh.ext
 replace y0 := cL hx y0
 clear hg hh hf hok s0
 have hf := hf1; clear hf1
 refine Tail.seq_op rfl rfl (fun K Z => ?_)
 go_simp
 go_at_call 35; refine (num29 _ g g _ _ _ _ (hl5.later hx) (by have := hf5.1.size; have := hx.size; omega) [n, ss.length] _ hn34 (by simp) (by intro x hx; simp at hx; rcases hx with rfl | rfl <;> omega) (by simp)).mono ?_; rintro e w6 ⟨rfl, b6, hl6, hf6⟩
 try dsimp only
 apply Z.out; clear Z K
 refine Tail.seq_nil rfl ?_
 refine Zq2 3 6 hf ?_
 clear hf s3 s6 s27 s34; intro fr1 hf sS
 have hf06 := hf5.trans ((LF.of_below g _ hx).trans hf6)
 have hg6 := hf06.below hgs (Nat.le_refl g) hl3.lo
 have y0b := (hg6.cell (p := ⟨w.heap.size, 0, none⟩) hwg2).trans HY0.out
 clear y0
 replace hrg := hrg.below (below_less hg6 hwg)
 obtain ⟨L0, hL0⟩ : ∃ x, [67, 83, 1] ++ numsB [n, ss.length] = x := ⟨_, rfl⟩
 have hll0 : L0.length <= 100 := by rw [<- hL0]; have h1 := (numB_le (n := n) (by omega)).2; have h2 := (numB_le (n := ss.length) (by omega)).2; simp [numsB]; omega
 have hl6b : LW w6 g g [.slice A ss.length cc, .int .u64 init] 91 b6 (L0) := by rw [<- hL0]; exact hl6
 have HL0 := Lib.hid hL0; clear hL0 hl5 hf5 hl6 hf6 hx3
 refine Zs hK7 fun _ hK8 => ?_
 refine Ze fun _ hK9 => ?_
 refine Zr [36, 37] hf ?_
 refine Zq4 3 6 38 39 hf ?_
 clear hf sS; intro fr1 hf sS
 clear y0b
 refine Zx hK9 ?_
 refine wp_block ?_
 refine wp_loop_ghost (fun gk fr wr => ∃ (i : Nat) (b1 : Value), gk = ss.length - i /\ i <= ss.length /\ Fact.Fr 60 fr /\ fr.tmps[3]? = some (.pointer (some ⟨w.heap.size, 0, none⟩)) /\ fr.tmps[6]? = some (.pointer (some ⟨g, 0, none⟩)) /\ fr.tmps[38]? = some (.int .i64 ss.length) /\ fr.tmps[39]? = some (.int .i64 i) /\ LW wr g g [.slice A ss.length cc, .int .u64 init] 91 b1 (L0 ++ statesB 0 (ss.take i)) /\ LF W3 g (.slice none 0 0) wr b1) (ss.length) ?_ ?_
 . (
 obtain ⟨s3, s6, s38, s39⟩ := sS
 exact ⟨0, b6, rfl, Nat.zero_le _, hf, s3, s6, s38, s39, by simpa [statesB] using hl6b, hf06⟩)
 . (
 clear hf sS
 rintro gk fr wr ⟨i, b1, hk, hki, hf, s3, s6, s38, s39, hl7, hf7⟩
 have HK := Lib.hid hk; clear hk
 have hb7 := hf7.below hgs (Nat.le_refl g) hl3.lo
 have hsm := statesB_le HO.out HML.out (by omega : ss.length <= 1000000) i
 refine Ze fun _ hK10 => ?_
 refine Zr [] hf ?_
 refine Zq5 3 6 38 39 40 hf ?_
 clear hf s3 s6 s38 s39; intro fr1 hf sS
 refine Zs hK10 fun _ hK11 => ?_
 refine Fact.cond_s sS.2.2.2.2 (fun hq => ?_) (fun hq => ?_)
 . (
 have hlt : i < ss.length := by have h9 := of_decide_eq_true hq; omega
 clear hq
 obtain ⟨s, his⟩ : ∃ s, ss[i]? = some s := ⟨_, List.getElem?_eq_getElem hlt⟩
 have hms := mayL_at HML.out his
 rw [Nat.zero_add] at hms
 have hst := statesB_take his
 have HST := Lib.hid hst; have HIS := Lib.hid his; clear hst his
 refine wp_skip ?_
 refine Zs hK11 fun _ hK12 => ?_
 refine wp_block ?_
 refine Ze fun _ hK13 => ?_
 refine Zr [41] hf ?_
 refine Zq5 3 6 7 38 39 hf ?_
 clear hf sS; intro fr1 hf sS
 refine Zx hK13 ?_
 refine rg ?_
 obtain ⟨b42, b43⟩ := hf.B2 42 43
 iterate 2 refine Za ?_
 refine fp fun K Z => ?_
 go_simp
 go_at_call 36; refine (state30 wr w.heap.size g g b1 _ _ init ss hl7 (by have := hf7.1.size; omega) (Nat.le_refl g) hwg (hrg0.out.below (below_less hb7 hwg)) i s HIS.out (HO.out s (List.mem_of_getElem? HIS.out)) hms.1 hms.2 (by omega) (by simp only [List.length_append]; omega)).mono ?_; rintro e w8 ⟨rfl, b8, hl8, hf8⟩
 have hf08 := hf7.trans hf8
 rw [List.append_assoc, <- HST.out] at hl8
 try dsimp only
 apply Z.out; clear Z K
 refine Fact.nil (Zq4 3 6 38 39 hf ?_)
 clear hf sS b42 b43; intro fr1 hf sS
 refine Fact.block_normal ?_
 refine Zx hK12 ?_
 refine Zr [45] hf ?_
 refine Zq4 3 6 38 39 hf ?_
 clear hf sS; intro fr1 hf sS
 refine Fact.then_normal ?_
 obtain ⟨s3, s6, s38, s39⟩ := sS
 exact ⟨_, by have := HK.out; omega, i + 1, b8, rfl, by omega, hf, s3, s6, s38, by rw [s39]; rfl, hl8, hf08⟩)
 . (
 have hie : i = ss.length := by have h9 := of_decide_eq_false hq; omega
 have hl8 := hl7
 rw [hie, List.take_length] at hl8
 rw [hie, List.take_length] at hsm
 have y1b := (hb7.cell (p := ⟨w.heap.size, 1, none⟩) hwg2).trans HY1.out
 clear hl7 hie hq
 refine Zo ?_
 refine Zs hK8 fun _ hK14 => ?_
 obtain ⟨s3, s6, s38, s39, s40⟩ := sS
 refine Stab.tb 60 fun hok => ?_
 refine Stab.mO 0 s6 hf hok ?_
 refine Stab.T 1 hf hok (fun _ _ h d => Stab.vd 0 0 d []) ?_
 refine Stab.T 2 hf hok (fun _ _ h d => Stab.vd 1 0 d []) ?_
 refine Stab.T 3 hf hok (fun _ _ h d => Stab.O h s3) ?_
 refine Stab.T 4 hf hok (fun _ _ h d => ad (Stab.vd 3 0 d []) (cL h.ext y1b)) ?_
 refine Stab.todo_op (k := 5) (n := 60) (RNs [init]) hf.size hok.out rfl (RNs.stable _) ?_ ?_
 . (
 intro fr1 w1 hh hd hk K Z
 refine Stab.pl ?_
 have s50 := Stab.v 4 0 hd hk []
 clear hd
 go_simp
 exact Z.out _ rfl _ _ ((Below.refl _ _).alloc (Nat.le_refl _) _) (rn_new _ [init] _))
 refine Tail.todo_tail (n := 60) (m := 6) (ws := [(6, 0, [2, 1]), (6, 1, [2]), (6, 3, [5, 4]), (6, 4, [5])]) (by kernel_rfl) hf.size hok.out rfl rfl (by kernel_rfl) (fun fr1 w1 hh hg => ?_)
 replace s6 := Stab.O hh s6
 have s48 := Tail.got_is 2 3 hg rfl rfl rfl rfl rfl
 obtain ⟨x51, s51, hp51⟩ := Tail.got_use (j := 5) (m := 0) hg rfl rfl rfl rfl rfl
 have hn51 := hp51
 have hf1 := hh.fr hf
 have hx := hh.ext
 replace y1b := cL hx y1b
 clear hg hh hf hok s3 s38 s39 s40
 have hf := hf1; clear hf1
 refine Tail.seq_op rfl rfl (fun K Z => ?_)
 go_simp
 go_at_call 35; refine (num29 _ g g _ _ _ _ (hl8.later hx) (by have := hf7.1.size; have := hx.size; omega) [init] _ hn51 (by simp) (by intro x hx; simp at hx; omega) (by simp only [List.length_append]; omega)).mono ?_; rintro e w9 ⟨rfl, b9, hl9, hf9⟩
 try dsimp only
 apply Z.out; clear Z K
 refine Tail.seq_nil rfl ?_
 refine Zq1 6 hf ?_
 clear hf s6 s48 s51; intro fr1 hf s6
 have hf09 := hf7.trans ((LF.of_below g _ hx).trans hf9)
 have hb9 := hf09.below hgs (Nat.le_refl g) hl3.lo
 have hbe := hbz3.trans (below_less hb9 hwg)
 have hbody : bodyB (n : Int).toNat init ss = L0 ++ statesB 0 ss ++ numsB [init] := by unfold bodyB; rw [HNE.out, HL0.out]
 have HBODY := Lib.hid hbody; clear hbody
 have how9 := hl9.2.1
 have u9 := cell_of_row _ _ 0 _ 91 (0, 0) hl9.1
 simp at u9
 have hcv := OB.conv how9
 rw [<- HBODY.out] at hcv
 have hbs : (bl (bodyB (n : Int).toNat init ss)).size <= 900000000 := by rw [bl_size, HBODY.out]; have h1 := (numB_le (n := init) (by omega)).2; simp only [List.length_append, numsB]; simp; omega
 have hsl : Small (bodyB (n : Int).toNat init ss) := by rw [HNE.out]; exact bodyB_small HO.out HML.out (by omega) (by omega) hinit
 obtain ⟨bb, hbb⟩ : ∃ x, bl (bodyB (n : Int).toNat init ss) = x := ⟨_, rfl⟩
 rw [hbb] at hcv hbs
 have hwb : wl bb = bodyB (n : Int).toNat init ss := by rw [<- hbb]; exact wl_bl hsl
 have HWB := Lib.hid hwb; clear hwb hbb hsl
 refine Zt hK14 fun _ hK15 => ?_
 have bB := hf.B7 53 54 55 56 57 58 59
 iterate 6 refine Za ?_
 refine fp fun K Z => ?_
 go_simp
 go_at_call 37; refine (seal17 w9 bb hbs).mono ?_; rintro e w10 ⟨rfl, hb10⟩
 try dsimp only
 apply Z.out; clear Z K
 iterate 2 refine Za ?_
 refine Fact.nil (Zq2 4 5 hf ?_)
 clear hf s6 bB; intro fr1 hf sS
 refine Zx hK15 ?_
 refine Zret ?_
 refine Fact.ret2 rfl hf sS.1 sS.2 ⟨?_, hbe.trans (hb10.mono hbe.size)⟩
 unfold putR
 rw [if_pos HM.out, HWB.out]
 rfl)))
def Pan (w w1 : World) (e : Ending) (code at_ : Int) : Prop := ∃ q, e = .panicked [{ v := .iface 77 (.pointer (some ⟨q, 0, none⟩)), recovered := false }] /\ w.heap.size <= q /\ w1.heap[q]? = some (.cells #[.int .i64 code, .int .i64 at_] 134 (0, 0)) /\ Below w.heap.size w w1
theorem pan9 {P : Program} {fn : Func} {R : Ending -> World -> Prop} {c : List PanicEntry} {a : Act} {w : World} (hd : a.defers = []) (hR : R (.panicked c) w) : bodyPost P fn R (.panic c) a w := ⟨hd, hR⟩
theorem bad33 (w : World) (code at_ : Int) : Calls Tryz.prog 32 #[.int .i64 code, .int .i64 at_] w fun e w1 => Pan w w1 e code at_ := by
 refine Zn2 9 Tryz.func32 fun fr hf s0 s1 => ?_
 refine rg ?_
 have bB := hf.B5 4 5 6 7 8
 iterate 5 refine Za ?_
 refine fp fun K Z => ?_
 go_simp
 refine pan9 hf.defers ?_
 exact ⟨w.heap.size, rfl, Nat.le_refl _, heap_alloc_new w _, (Below.refl _ _).alloc (Nat.le_refl _) _⟩
theorem getN_over {s : List Nat} {i : Nat} (h : s.length <= i) : getN s i = (0, i, 3) := by
 unfold getN
 rw [List.getElem?_eq_none h]
theorem getN_small {s : List Nat} {i c : Nat} (h : s[i]? = some c) (h8 : c < 248) : getN s i = (c, i + 1, 0) := by
 unfold getN
 rw [h]
 simp only
 rw [if_pos h8]
theorem getN_short {s : List Nat} {i c : Nat} (h : s[i]? = some c) (h8 : ¬ c < 248) (h7 : s.length - i <= c - 247) : getN s i = (0, i, 3) := by
 unfold getN
 rw [h]
 simp only
 rw [if_neg h8, if_pos h7]
theorem getN_form {s : List Nat} {i c : Nat} (h : s[i]? = some c) (h8 : ¬ c < 248) (h7 : ¬ s.length - i <= c - 247) (h6 : ¬ (numB (ofLe ((s.drop (i + 1)).take (c - 247)))).length = 1 + (c - 247)) : getN s i = (0, i, 5) := by
 unfold getN
 rw [h]
 simp only
 rw [if_neg h8, if_neg h7, if_neg h6]
theorem getN_big {s : List Nat} {i c : Nat} (h : s[i]? = some c) (h8 : ¬ c < 248) (h7 : ¬ s.length - i <= c - 247) (h6 : (numB (ofLe ((s.drop (i + 1)).take (c - 247)))).length = 1 + (c - 247)) : getN s i = (ofLe ((s.drop (i + 1)).take (c - 247)), i + 1 + (c - 247), 0) := by
 unfold getN
 rw [h]
 simp only
 rw [if_neg h8, if_neg h7, if_pos h6]
theorem ofLe_take (s : ByteArray) (i k : Nat) : ofLe (((wl s).drop i).take k) < 256 ^ k := by
 refine Nat.lt_of_lt_of_le (ofLe_lt _ (fun x hx => wl_lt s x (List.mem_of_mem_drop (List.mem_of_mem_take hx)))) (Nat.pow_le_pow_right (by omega) ?_)
 simp
 omega
theorem ofLe_64 (s : ByteArray) (i : Nat) {k : Nat} (h : k <= 8) : ofLe (((wl s).drop i).take k) < M64 :=
 Nat.lt_of_lt_of_le (ofLe_take s i k) (Nat.pow_le_pow_right (by omega) h)
theorem shl_cut {d k : Nat} (hd : d < 256) (hk : k <= 7) : IntKind.u64.wrap ((d : Int) * 2 ^ (8 * (k : Int)).toNat) = ((256 ^ k * d : Nat) : Int) := by
 have h1 : 256 ^ k <= 256 ^ 7 := Nat.pow_le_pow_right (by omega) hk
 have h2 : 256 ^ k * d <= 256 ^ 7 * 255 := Nat.mul_le_mul h1 (by omega)
 have e : (d : Int) * 2 ^ (8 * (k : Int)).toNat = ((256 ^ k * d : Nat) : Int) := by
  rw [show (8 * (k : Int)).toNat = 8 * k by omega, show (2 : Int) ^ (8 * k) = ((256 ^ k : Nat) : Int) by rw [pow256]; norm_cast, Nat.mul_comm]
  exact (Int.natCast_mul _ _).symm
 rw [e]
 exact Fact.wrap_u64 (by omega) (by omega)
theorem shl_lt {d k : Nat} (hd : d < 256) (hk : k <= 7) : 256 ^ k * d < 18446744073709551616 := by
 have h1 : 256 ^ k <= 256 ^ 7 := Nat.pow_le_pow_right (by omega) hk
 have h2 : 256 ^ k * d <= 256 ^ 7 * 255 := Nat.mul_le_mul h1 (by omega)
 omega
theorem or_add {n d k : Nat} (h : n < 256 ^ k) : n ||| (256 ^ k * d) = n + 256 ^ k * d := by
 rw [pow256] at h |-
 rw [Nat.or_comm, <- Nat.two_pow_add_eq_or_of_lt h, Nat.add_comm]
theorem ofLe_step {l : List Nat} {i k d : Nat} (h : l[i + 1 + k]? = some d) : ofLe ((l.drop (i + 1)).take k) + 256 ^ k * d = ofLe ((l.drop (i + 1)).take (k + 1)) := by
 have h1 : (l.drop (i + 1))[k]? = some d := by rw [List.getElem?_drop]; exact h
 have hl := (List.getElem?_eq_some_iff.1 h1).1
 rw [List.take_add_one, h1, Option.toList_some, ofLe_snoc, List.length_take, Nat.min_eq_left (by omega)]
theorem get72 (w : World) (s : ByteArray) (i : Nat) (hi : i <= s.size) (hsz : s.size <= 1000000000) : Calls Tryz.prog 98 #[.string s, .int .i64 i] w fun e w1 => e = .returned (.tuple #[.int .u64 (getN (wl s) i).1, .int .i64 (getN (wl s) i).2.1, .int .i64 (getN (wl s) i).2.2]) /\ Below w.heap.size w w1 := by
 refine Zn2 67 Tryz.func98 fun fr hf s0 s1 => ?_
 have hat2 : ∀ (i : Nat) (h : i < s.size), s[i].toNat = at_ s i := fun i h => (at_get h).symm
 have q0 : decide ((i : Int) < 0) = false := decide_eq_false (by omega)
 refine Ze fun _ hK1 => ?_
 refine Zr [] hf ?_
 refine Zq3 0 1 4 hf ?_
 clear hf s0 s1; intro fr1 hf sS
 refine Zx hK1 ?_
 rcases Nat.lt_or_ge i s.size with hlt | hge
 . (
 have q1 : decide (s.size <= i) = false := decide_eq_false (by omega)
 refine Ze fun _ hK2 => ?_
 refine Ze fun _ hK3 => rg ?_
 have bB := hf.B7 10 11 12 13 14 15 16
 iterate 3 refine Za ?_
 refine Zg ?_ (hv := by simp (decide := true) only [Fact.G, reduceIte, hf.size, q0, q1, Fact.N])
 refine Zg ?_ (hv := by simp (decide := true) only [Fact.G, reduceIte, hf.size, q0, q1, Fact.N])
 refine Zg ?_ (hv := by simp (decide := true) only [Fact.G, reduceIte, hf.size, q0, q1, Fact.N])
 refine Zg ?_ (hv := by simp (decide := true) only [Fact.G, reduceIte, hf.size, q0, q1, Fact.N])
 refine Za ?_
 refine Fact.nil (Zq4 0 1 4 17 hf ?_)
 clear hf sS bB; intro fr1 hf sS
 refine Zx hK3 ?_
 refine Fact.cond_f sS.2.2.2 ?_
 clear q0 q1
 obtain ⟨c, hc⟩ : ∃ c, at_ s i = c := ⟨_, rfl⟩
 have hc8 : c < 256 := by rw [<- hc]; exact at_lt s i
 have hwc : (wl s)[i]? = some c := by rw [<- hc]; exact wl_at hlt
 have HC := Lib.hid hc; have HW := Lib.hid hwc; clear hc hwc
 refine wp_skip ?_
 refine Zt hK2 fun _ hK4 => ?_
 have bB := hf.B3 19 20 21
 iterate 2 refine Za ?_
 refine fp fun K Z => ?_
 go_simp
 try rw [dif_pos (by omega)]
 skip
 apply Z.out; clear Z K
 refine Za ?_
 refine Fact.nil (Zq4 0 1 4 7 hf ?_)
 clear hf sS bB; intro fr1 hf sS
 refine Zx hK4 ?_
 obtain ⟨s0, s1, s4, s7⟩ := sS
 try rw [HC.out] at s7
 refine Ze fun _ hK5 => ?_
 refine Ze fun _ hK6 => ?_
 refine Zr [22] hf ?_
 refine Zq5 0 1 4 7 23 hf ?_
 clear hf s0 s1 s4 s7; intro fr1 hf sS
 refine Zx hK6 ?_
 refine Fact.cond_s sS.2.2.2.2 (fun hq => ?_) (fun hq => ?_)
 . (
 have h8 : c < 248 := by have h9 := of_decide_eq_true hq; omega
 clear hq
 refine Ze fun _ hK7 => ?_
 refine Zr [24, 25, 26, 27] hf ?_
 refine Zq3 4 5 6 hf ?_
 clear hf sS; intro fr1 hf sS
 refine Zx hK7 ?_
 refine Zret ?_
 obtain ⟨s4, s5, s6⟩ := sS
 refine Fact.ret3 rfl hf s4 s5 s6 ⟨?_, Below.refl _ _⟩
 rw [getN_small HW.out h8]
 rfl)
 . (
 have h8 : ¬ c < 248 := by have h9 := of_decide_eq_false hq; omega
 clear hq
 obtain ⟨m, hm⟩ : ∃ m, c - 247 = m := ⟨_, rfl⟩
 have hm8 : 1 <= m /\ m <= 8 := by omega
 have HM := Lib.hid hm; clear hm
 refine wp_skip ?_
 refine Zt hK5 fun _ hK8 => ?_
 have bB := hf.B4 28 29 30 31
 iterate 2 refine Za ?_
 refine fp fun K Z => ?_
 go_simp
 try simp (disch := omega) only [Fact.W]
 try simp (disch := omega) only [Fact.W]
 apply Z.out; clear Z K
 refine fp fun K Z => ?_
 go_simp
 try simp (disch := omega) only [Fact.W]
 try simp (disch := omega) only [Fact.W]
 rw [show (c : Int) - 248 + 1 = ((c - 247 : Nat) : Int) by omega]
 rw [HM.out]
 apply Z.out; clear Z K
 refine Za ?_
 refine Fact.nil (Zq4 0 1 4 8 hf ?_)
 clear hf sS bB; intro fr1 hf sS
 refine Zs hK8 fun _ hK9 => ?_
 refine Ze fun _ hK10 => ?_
 refine Zr [32, 33, 34, 35, 36] hf ?_
 refine Zq5 0 1 4 8 37 hf ?_
 clear hf sS; intro fr1 hf sS
 refine Zx hK10 ?_
 refine Fact.cond_s sS.2.2.2.2 (fun hq => ?_) (fun hq => ?_)
 . (
 have h7 : s.size - i <= m := by have h9 := of_decide_eq_true hq; omega
 clear hq
 refine Ze fun _ hK11 => ?_
 refine Zr [38] hf ?_
 refine Zq3 4 5 6 hf ?_
 clear hf sS; intro fr1 hf sS
 refine Zx hK11 ?_
 refine Zret ?_
 obtain ⟨s4, s5, s6⟩ := sS
 refine Fact.ret3 rfl hf s4 s5 s6 ⟨?_, Below.refl _ _⟩
 rw [getN_short HW.out h8 (by rw [wl_length, HM.out]; exact h7)]
 rfl)
 . (
 have h7 : ¬ s.size - i <= m := by have h9 := of_decide_eq_false hq; omega
 clear hq
 refine wp_skip ?_
 refine Zs hK9 fun _ hK12 => ?_
 refine Ze fun _ hK13 => ?_
 refine Zr [] hf ?_
 refine Zq6 0 1 4 8 39 40 hf ?_
 clear hf sS; intro fr1 hf sS
 refine Zx hK13 ?_
 refine wp_block ?_
 refine wp_loop_ghost (fun gk fr wr => ∃ (k n : Nat), gk = m - k /\ k <= m /\ Fact.Fr 67 fr /\ fr.tmps[0]? = some (.string s) /\ fr.tmps[1]? = some (.int .i64 i) /\ fr.tmps[8]? = some (.int .i64 m) /\ fr.tmps[39]? = some (.int .i64 m) /\ fr.tmps[40]? = some (.int .i64 k) /\ fr.tmps[4]? = some (.int .u64 n) /\ n = ofLe (((wl s).drop (i + 1)).take k) /\ wr = w) (m) ?_ ?_
 . (
 obtain ⟨s0, s1, s4, s8, s39, s40⟩ := sS
 exact ⟨0, 0, rfl, Nat.zero_le _, hf, s0, s1, s8, s39, s40, s4, rfl, rfl⟩)
 . (
 clear hf sS
 rintro gk fr wr ⟨k, n, hk, hkm, hf, s0, s1, s8, s39, s40, s4, hn, hwr⟩
 subst wr
 have HK := Lib.hid hk; have HN := Lib.hid hn; clear hk hn
 refine Ze fun _ hK14 => ?_
 refine Zr [] hf ?_
 refine Zq7 0 1 4 8 39 40 41 hf ?_
 clear hf s0 s1 s4 s8 s39 s40; intro fr1 hf sS
 refine Zs hK14 fun _ hK15 => ?_
 refine Fact.cond_s sS.2.2.2.2.2.2 (fun hq => ?_) (fun hq => ?_)
 . (
 have hltk : k < m := by have h9 := of_decide_eq_true hq; omega
 clear hq
 obtain ⟨d, hd⟩ : ∃ d, at_ s (i + 1 + k) = d := ⟨_, rfl⟩
 have hd8 : d < 256 := by rw [<- hd]; exact at_lt s _
 have hwd : (wl s)[i + 1 + k]? = some d := by rw [<- hd]; exact wl_at (by omega)
 have HD := Lib.hid hd; clear hd
 have hn256 : n < 256 ^ k := by rw [HN.out]; exact ofLe_take s _ _
 have hst := ofLe_step hwd
 rw [<- HN.out] at hst
 obtain ⟨n2, hn2⟩ : ∃ n2, n + 256 ^ k * d = n2 := ⟨_, rfl⟩
 rw [hn2] at hst
 obtain ⟨p, hp⟩ : ∃ p, 256 ^ k * d = p := ⟨_, rfl⟩
 rw [hp] at hn2
 have hor := or_add (d := d) hn256
 rw [hp] at hor
 have hn64 : n < 18446744073709551616 := by rw [HN.out]; exact ofLe_64 s _ (show k <= 8 by omega)
 have hp64 : p < 18446744073709551616 := by rw [<- hp]; exact shl_lt hd8 (show k <= 7 by omega)
 have HP := Lib.hid hp; have HOR := Lib.hid hor; have HN2 := Lib.hid hn2; have HST := Lib.hid hst; clear hn2 hst hwd hp hor
 refine wp_skip ?_
 refine Zs hK15 fun _ hK16 => ?_
 refine wp_block ?_
 refine Ze fun _ hK17 => ?_
 refine Zr [42] hf ?_
 refine Zq7 0 1 4 8 9 39 40 hf ?_
 clear hf sS; intro fr1 hf sS
 refine Zx hK17 ?_
 refine rg ?_
 have bB := And.intro (hf.B10 43 44 45 46 47 48 49 50 51 52) (hf.B2 53 54)
 iterate 3 refine Za ?_
 refine Zb ?_
 refine Za ?_
 refine Zb ?_
 refine fp fun K Z => ?_
 go_simp
 rw [if_pos (by omega), Oper.upon_value, show ((i : Int) + 1 + (k : Int)).toNat = i + 1 + k by omega, HD.out]
 apply Z.out; clear Z K
 iterate 2 refine Za ?_
 refine Zb ?_
 refine fp fun K Z => ?_
 go_simp
 rw [shl_cut hd8 (show k <= 7 by omega), HP.out]
 apply Z.out; clear Z K
 refine fp fun K Z => ?_
 go_simp
 rw [u64_or_nat n p hn64 hp64, HOR.out, HN2.out]
 apply Z.out; clear Z K
 refine Za ?_
 refine Fact.nil (Zq6 0 1 4 8 39 40 hf ?_)
 clear hf sS bB; intro fr1 hf sS
 refine Fact.block_normal ?_
 refine Zx hK16 ?_
 refine Zr [55] hf ?_
 refine Zq6 0 1 4 8 39 40 hf ?_
 clear hf sS; intro fr1 hf sS
 refine Fact.then_normal ?_
 obtain ⟨s0, s1, s4, s8, s39, s40⟩ := sS
 exact ⟨_, by have := HK.out; omega, k + 1, n2, rfl, by omega, hf, s0, s1, s8, s39, by rw [s40]; rfl, s4, HST.out, rfl⟩)
 . (
 have hke : k = m := by have h9 := of_decide_eq_false hq; omega
 subst hke
 clear hq
 have hn64 : n < M64 := by rw [HN.out]; exact ofLe_64 s _ hm8.2
 refine Zo ?_
 refine Zs hK12 fun _ hK18 => ?_
 refine Ze fun _ hK19 => rg ?_
 have bB := hf.B4 56 57 58 59
 refine Za ?_
 refine fp fun K Z => ?_
 go_simp
 go_at_call 137; refine (size85 w n hn64).mono ?_; rintro e w1 ⟨rfl, hbz⟩
 try dsimp only
 apply Z.out; clear Z K
 refine Za ?_
 refine fp fun K Z => ?_
 go_simp
 try simp (disch := omega) only [Fact.W]
 rw [show (1 : Int) + (k : Int) = ((1 + k : Nat) : Int) by omega]
 apply Z.out; clear Z K
 refine Za ?_
 refine Fact.nil (Zq4 1 4 8 60 hf ?_)
 clear hf sS bB; intro fr1 hf sS
 refine Zx hK19 ?_
 refine Fact.cond_s sS.2.2.2 (fun hq => ?_) (fun hq => ?_)
 . (
 have h6 : ¬ (numB n).length = 1 + k := by have h9 := hq; simp at h9; omega
 clear hq
 refine Ze fun _ hK20 => ?_
 refine Zr [61] hf ?_
 refine Zq3 4 5 6 hf ?_
 clear hf sS; intro fr1 hf sS
 refine Zx hK20 ?_
 refine Zret ?_
 obtain ⟨s4, s5, s6⟩ := sS
 refine Fact.ret3 rfl hf s4 s5 s6 ⟨?_, hbz⟩
 rw [getN_form HW.out h8 (by rw [wl_length, HM.out]; exact h7) (by rw [HM.out, <- HN.out]; exact h6)]
 rfl)
 . (
 have h6 :  (numB n).length = 1 + k := by have h9 := hq; simp at h9; omega
 clear hq
 refine wp_skip ?_
 refine Zs hK18 fun _ hK21 => ?_
 refine Zr [62, 63, 64, 65, 66] hf ?_
 refine Zq3 4 5 6 hf ?_
 clear hf sS; intro fr1 hf sS
 refine Zx hK21 ?_
 refine Zret ?_
 obtain ⟨s4, s5, s6⟩ := sS
 refine Fact.ret3 rfl hf s4 s5 s6 ⟨?_, hbz⟩
 rw [getN_big HW.out h8 (by rw [wl_length, HM.out]; exact h7) (by rw [HM.out, <- HN.out]; exact h6), HM.out, <- HN.out]
 rfl))))))
 . (
 have q1 : decide (s.size <= i) = true := decide_eq_true hge
 refine Ze fun _ hK22 => ?_
 refine Ze fun _ hK23 => rg ?_
 have bB := hf.B7 10 11 12 13 14 15 16
 iterate 3 refine Za ?_
 refine Zg ?_ (hv := by simp (decide := true) only [Fact.G, reduceIte, hf.size, q0, q1, Fact.N])
 refine Zg ?_ (hv := by simp (decide := true) only [Fact.G, reduceIte, hf.size, q0, q1, Fact.N])
 refine Zg ?_ (hv := by simp (decide := true) only [Fact.G, reduceIte, hf.size, q0, q1, Fact.N])
 refine Zg ?_ (hv := by simp (decide := true) only [Fact.G, reduceIte, hf.size, q0, q1, Fact.N])
 refine Za ?_
 refine Fact.nil (Zq4 0 1 4 17 hf ?_)
 clear hf sS bB; intro fr1 hf sS
 refine Zx hK23 ?_
 refine Fact.cond_t sS.2.2.2 ?_
 refine Ze fun _ hK24 => ?_
 refine Zr [18] hf ?_
 refine Zq3 4 5 6 hf ?_
 clear hf sS; intro fr1 hf sS
 refine Zx hK24 ?_
 refine Zret ?_
 obtain ⟨s4, s5, s6⟩ := sS
 refine Fact.ret3 rfl hf s4 s5 s6 ⟨?_, Below.refl _ _⟩
 rw [getN_over (by rw [wl_length]; exact hge)]
 rfl)
end Dw
end Go.Proofs.YtcddnmhmcieebaaGreatDoor
