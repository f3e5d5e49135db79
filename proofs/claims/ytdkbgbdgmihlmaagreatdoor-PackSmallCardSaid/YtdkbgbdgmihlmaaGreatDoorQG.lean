/- pack: a writer lays numbers. -/
import Derived.Test.YtdkbgbdgmihlmaaGreatDoorPAppS
import Derived.Test.YtdkbgbdgmihlmaaGreatDoorTools
import Derived.Test.YtdkbgbdgmihlmaaGreatDoorQF
namespace Go.Proofs.YtdkbgbdgmihlmaaGreatDoor
open Go.RowKit
set_option linter.unusedSimpArgs false
set_option linter.unusedVariables false
set_option linter.unnecessarySimpa false
namespace Dw

theorem numsB_small : ∀ {l : List Nat}, (∀ n ∈ l, n < M64) → Small (numsB l)
  | [], _ => Small.nil
  | x :: l, h => by
    have e : numsB (x :: l) = numB x ++ numsB l := by simp [numsB]
    rw [e]
    exact (numB_small (h x (List.mem_cons_self ..))).append (numsB_small (fun n hn => h n (List.mem_cons_of_mem _ hn)))
def PRowN (w0 : World) (base g : Nat) (bv : Value) (rest : List Value) (t : TypeId) (l : List Nat) : Stab.Pr := fun v w => OB w base v l ∧ (v.ownBlock = bv.ownBlock ∨ ∃ k, v.ownBlock = some k ∧ w0.heap.size ≤ k) ∧ w.heap[g]? = some (.cells (bv :: rest).toArray t (0, 0))
theorem PRowN.stable (w0 : World) (base g : Nat) (bv : Value) (rest : List Value) (t : TypeId) (l : List Nat) : Stab.Stable (PRowN w0 base g bv rest t l) := fun v w w' hb ⟨h1, h2, h3⟩ => ⟨own_later h1 hb, h2, (hb.block g (heap_lt h3)).trans h3⟩
theorem PEndN.ne {w0 : World} {g : Nat} {bv v : Value} (h : v.ownBlock = bv.ownBlock ∨ ∃ k, v.ownBlock = some k ∧ w0.heap.size ≤ k) (hne : bv.ownBlock ≠ some g) (hg : g < w0.heap.size) : v.ownBlock ≠ some g := by
  rcases h with e | ⟨k, e, h2⟩
  · rw [e]; exact hne
  · rw [e]; intro e2; injection e2 with e2; omega
theorem PRowN.ne {w w0 : World} {base g : Nat} {bv v : Value} {rest : List Value} {t : TypeId} {l : List Nat} (h : PRowN w0 base g bv rest t l v w) (hne : bv.ownBlock ≠ some g) (hg : g < w0.heap.size) : v.ownBlock ≠ some g := PEndN.ne h.2.1 hne hg
def PEndN (w0 : World) (base g : Nat) (bv : Value) (rest : List Value) (t : TypeId) (l : List Nat) : Stab.Pr := fun _ w => ∃ v, OB w base v l ∧ (v.ownBlock = bv.ownBlock ∨ ∃ k, v.ownBlock = some k ∧ w0.heap.size ≤ k) ∧ w.heap[g]? = some (.cells (v :: rest).toArray t (0, 0))
theorem PEndN.stable (w0 : World) (base g : Nat) (bv : Value) (rest : List Value) (t : TypeId) (l : List Nat) : Stab.Stable (PEndN w0 base g bv rest t l) := fun _ w w' hb ⟨v, h1, h2, h3⟩ => ⟨v, own_later h1 hb, h2, (hb.block g (heap_lt h3)).trans h3⟩
set_option maxHeartbeats 4000000 in
set_option maxRecDepth 100000 in
theorem num29 (w : World) (base g : Nat) (rest : List Value) (t : TypeId) (bv : Value) (l : List Nat) (hlw : LW w base g rest t bv l) (hbase : base ≤ w.heap.size) (ns : List Nat) (v : Value) (hrn : RN w w.heap.size v ns) (hlen : ns.length ≤ 1000) (hsm : ∀ n ∈ ns, n < M64) (hll : l.length ≤ 900000000) : Calls Tryz.prog 27 #[.pointer (some ⟨g, 0, none⟩), v] w fun e w1 => e = .returned (.tuple #[]) ∧ ∃ b1, LW w1 base g rest t b1 (l ++ numsB ns) ∧ LF w g bv w1 b1 := by
 refine calls_of_wp Tryz.func27 rfl ?_
 refine Fact.en 14 fun fr hf hT => ?_
 have s0 := hT 0 _ rfl
 have s1 := hT 1 _ rfl
 clear hT
 obtain ⟨hx, how, hne⟩ := hlw
 have hlt := heap_lt hx
 have hlo := fun k hk => (World.ownsRow.lt how k hk).1
 have hgb := (heap_lt hx)
 obtain ⟨L2, hL2⟩ : ∃ x, numsB ns = x := ⟨_, rfl⟩
 have hL2s : Small L2 := by rw [← hL2]; exact numsB_small hsm
 have hL2l : L2.length ≤ 9 * ns.length := by rw [← hL2]; exact numsB_len0 ns hsm
 have HL2 := Lib.hid hL2; have HSM := Lib.hid hsm; clear hL2 hsm
 refine Stam.todo_begin (n := 14) (fun _ k => k = g ∨ bv.ownBlock = some k) [7, 10] (Stab.OkOps.of (by kernel_rfl)) (fun hok => ?_)
 refine Stam.mvO (k := 0) s0 hf.size hok.out rfl (by kernel_rfl) rfl rfl (.inl rfl) (by kernel_rfl) ?_
 refine Stam.mvO (k := 1) s0 hf.size hok.out rfl (by kernel_rfl) rfl rfl (.inl rfl) (by kernel_rfl) ?_
 apply Stam.tq 2 _ hf hok
 · (
 intro fr1 w1 hh hd hk K Z
 refine Stab.pl ?_
 have s5 := Stam.v 1 0 hd hk []
 have hxe := Stam.ext_at hh [(7, [4, 3]), (10, [])] (by kernel_rfl)
 have hbt := Stam.but_at hh [] [(7, [4, 3]), (10, [])] (by kernel_rfl)
 clear hd hh
 go_simp
 exact Stab.k Z)
 apply Stam.tq 3 _ hf hok
 · (
 intro fr1 w1 hh hd hk K Z
 refine Stab.pl ?_
 have s6 := Stam.v 2 0 hd hk []
 have hxe := Stam.ext_at hh [(7, [4]), (10, [])] (by kernel_rfl)
 have hbt := Stam.but_at hh [] [(7, [4]), (10, [])] (by kernel_rfl)
 clear hd hh
 go_simp
 exact Stab.k Z)
 apply Stam.tq 4 _ hf hok
 · (
 intro fr1 w1 hh hd hk K Z
 refine Stab.pl ?_
 have s7 := Stam.v 3 0 hd hk []
 have hxe := Stam.ext_at hh [(7, []), (10, [])] (by kernel_rfl)
 have hbt := Stam.but_at hh [] [(7, []), (10, [])] (by kernel_rfl)
 clear hd hh
 have z0 := cell_of_row _ _ 0 _ t (0, 0) ((hxe.block g hlt).trans hx)
 simp at z0
 go_simp
 exact Stab.k Z)
 refine Stam.mvO (k := 5) s1 hf.size hok.out rfl (by kernel_rfl) rfl rfl (.inl rfl) (by kernel_rfl) ?_
 apply Stam.tq 6 _ hf hok
 · (
 intro fr1 w1 hh hd hk K Z
 refine Stab.pl ?_
 have s9 := Stam.v 5 0 hd hk []
 have hxe := Stam.ext_at hh [(7, []), (10, [])] (by kernel_rfl)
 have hbt := Stam.but_at hh [] [(7, []), (10, [])] (by kernel_rfl)
 clear hd hh
 go_simp
 go_at_call 46; refine (put48 w1 ns v ((hrn.below hxe).more hxe.size) hlen HSM.out).mono ?_; rintro e w2 ⟨rfl, hb⟩
 rw [HL2.out]
 exact Z.out _ rfl _ _ hb rfl)
 refine Stam.todo_sp (k := 7) (n := 14) (PRowN w base g bv rest t (l ++ L2)) hf.size hok.out rfl (PRowN.stable _ _ _ _ _ _ _) (by kernel_rfl) ?_ ?_
 · (
 intro fr1 w1 hh hd hk K Z
 refine Stab.pl ?_
 have s8 := Stam.v 4 2 hd hk []
 have s10 := Stam.v 6 0 hd hk []
 have hxe := Stam.ext_at hh [(10, [])] (by kernel_rfl)
 have hbt := Stam.but_at hh [] [(10, [])] (by kernel_rfl)
 clear hd hh
 have how2 := own_later how hxe
 have hx2 := (hxe.block g hlt).trans hx
 refine wp_appstr _ _ rfl base bv l (Fact.eval_tmp s8) how2 (bl L2) (Fact.eval_tmp s10) (by rw [bl_size]; omega) (by have := hxe.size; omega) (fun v2 w2 hr3 hg3 hat3 => ?_)
 rw [wl_bl hL2s] at hr3
 exact Z.out _ rfl _ _ (But.grown hg3 (fun k hk => .inr hk)) ⟨hr3, hat3.imp id (fun h => ⟨_, h, hxe.size⟩), (hg3.block g (heap_lt hx2) (fun e => hne e.symm)).trans hx2⟩)
 apply Stam.tq 8 _ hf hok
 · (
 intro fr1 w1 hh hd hk K Z
 refine Stab.pl ?_
 have s4 := Stam.v 0 7 hd hk []
 have hbt := Stam.but_at hh [7] [(10, [9])] (by kernel_rfl)
 clear hd hh
 go_simp
 exact Stab.k Z)
 apply Stam.tq 9 _ hf hok
 · (
 intro fr1 w1 hh hd hk K Z
 refine Stab.pl ?_
 have s12 := Stam.v 8 0 hd hk []
 have hbt := Stam.but_at hh [7] [(10, [])] (by kernel_rfl)
 clear hd hh
 go_simp
 exact Stab.k Z)
 refine Stam.todo_sp (k := 10) (n := 14) (PEndN w base g bv rest t (l ++ L2)) hf.size hok.out rfl (PEndN.stable _ _ _ _ _ _ _) (by kernel_rfl) ?_ ?_
 · (
 intro fr1 w1 hh hd hk K Z
 refine Stab.pl ?_
 have s13 := Stam.v 9 0 hd hk []
 obtain ⟨x11, s11, hp11⟩ := Stam.use (j := 7) (m := 2) hd hk rfl [] (by kernel_rfl) [] (by kernel_rfl) rfl rfl rfl
 obtain ⟨hr11, hl11, hx11⟩ := hp11
 have hbt := Stam.but_at hh [7] [] (by kernel_rfl)
 clear hd hh
 have z0 := cell_of_row _ _ 0 _ t (0, 0) hx11
 simp at z0
 have fz := frozen_of (i := 0) hx11
 obtain ⟨A2, c2, hv2, _⟩ := row_form hr11
 subst hv2
 go_simp
 refine Z.out _ rfl undef _ (But.setCell (.inl rfl) _) ⟨_, own_but hr11 (But.setCell (S := fun k => k = g) rfl _) (fun kk hkk e => by subst e; exact PRowN.ne ⟨hr11, hl11, hx11⟩ hne hlt hkk), hl11, (set_block (i := 0) hx11 _).trans (by simp)⟩)
 refine Stam.todo_facts (n := 14) (by kernel_rfl) hf.size hok.out rfl (fun fr1 w1 hh hg => ?_)
 obtain ⟨_, hlast⟩ := Stam.end_fact (j := 10) (m := 0) hg rfl (by decide) [(7, [])] (by kernel_rfl) rfl
 have hf1 := hh.fr hf
 have hbt := hh.but
 clear hg hh hf hok s0 s1
 have hf := hf1; clear hf1
 obtain ⟨v6, hr6, hl6, hx6⟩ := hlast
 replace hbt := hbt (fun k => k = g ∨ bv.ownBlock = some k) (fun m _ b h => h)
 exact Fact.end0 rfl hf ⟨rfl, v6, ⟨hx6, by rw [HL2.out]; exact hr6, PEndN.ne hl6 hne hlt⟩, hbt, hl6⟩
end Dw
end Go.Proofs.YtdkbgbdgmihlmaaGreatDoor

namespace Go.Proofs.YtdkbgbdgmihlmaaGreatDoor
open Go.RowKit
set_option linter.unusedSimpArgs false
set_option linter.unusedVariables false
set_option linter.unnecessarySimpa false
namespace Dw

def arcB (i : Nat) (a : Arc) : List Nat := a.byte :: numsB [a.out, i - a.to.toNat]
def arcsB (i : Nat) (l : List Arc) : List Nat := l.flatMap (arcB i)
def headB (s : State) : List Nat := numsB (if s.final then [2 * s.arcs.length + 1, s.out] else [2 * s.arcs.length])
/-- a state's bytes -/
def stB (i : Nat) (s : State) : List Nat := headB s ++ arcsB i s.arcs
theorem arcsB_take {l : List Arc} {i k : Nat} {a : Arc} (h : l[k]? = some a) : arcsB i (l.take (k + 1)) = arcsB i (l.take k) ++ arcB i a := by
  rw [List.take_add_one, h]
  simp [arcsB]
theorem arcB_le {i : Nat} {a : Arc} (h : okA a) (hi : i ≤ 1000000) : (arcB i a).length ≤ 19 := by
  have h1 := (numB_le (n := a.out) h.2.1).2
  have h2 := (numB_le (n := i - a.to.toNat) (by unfold M64; omega)).2
  simp [arcB, numsB]
  omega
theorem arcsB_len {i : Nat} (hi : i ≤ 1000000) : ∀ l : List Arc, (∀ a ∈ l, okA a) → (arcsB i l).length ≤ 19 * l.length
  | [], _ => by simp [arcsB]
  | a :: l, h => by
    have h1 := arcB_le (h a (List.mem_cons_self ..)) hi
    have h2 := arcsB_len hi l (fun x hx => h x (List.mem_cons_of_mem _ hx))
    simp only [arcsB, List.flatMap_cons, List.length_append, List.length_cons] at h2 ⊢
    omega
theorem arcsB_le {l : List Arc} (i k : Nat) (h : ∀ a ∈ l, okA a) (hi : i ≤ 1000000) : (arcsB i (l.take k)).length ≤ 19 * l.length := by
  have h1 := arcsB_len hi (l.take k) (fun a ha => h a (List.mem_of_mem_take ha))
  have h2 : (l.take k).length ≤ l.length := by simp; omega
  omega
theorem headB_le {s : State} (h : s.out < 18446744073709551616) (hl : s.arcs.length ≤ 1000) : (headB s).length ≤ 18 := by
  unfold headB
  split
  · have h1 := (numB_le (n := s.out) h).2
    have h2 := (numB_le (n := 2 * s.arcs.length + 1) (by unfold M64; omega)).2
    simp [numsB]
    omega
  · have h2 := (numB_le (n := 2 * s.arcs.length) (by unfold M64; omega)).2
    simp [numsB]
    omega
theorem below_less {N B : Nat} {w w' : World} (h : Below B w w') (hN : N ≤ B) : Below N w w' := ⟨h.os, h.tape, h.output, h.size, fun i hi => h.block i (by omega)⟩
def RNs (ns : List Nat) : Stab.Pr := fun v w => RN w w.heap.size v ns
theorem RNs.stable (ns : List Nat) : Stab.Stable (RNs ns) := fun v w w' hb h => (RN.below h hb).more hb.size
theorem rn_new (w : World) (ns : List Nat) (t : TypeId) : RN (w.alloc (.cells (ns.map fun (x : Nat) => Value.int .u64 x).toArray t)) (w.alloc (.cells (ns.map fun (x : Nat) => Value.int .u64 x).toArray t)).heap.size (.slice (some ⟨w.heap.size, 0, none⟩) ns.length ns.length) ns :=
  ⟨_, _, rfl, fun _ => ⟨_, 0, rfl, by simp, fun i x hx => by
    rw [Nat.zero_add]
    exact lit_new w _ t i _ (by rw [List.getElem?_map, hx]; rfl)⟩⟩
set_option maxHeartbeats 4000000 in
set_option maxRecDepth 100000 in
theorem state30 (w : World) (N base g : Nat) (bv : Value) (l : List Nat) (sv : Value) (init : Nat) (ss : List State) (hlw : LW w base g [sv, .int .u64 init] 87 bv l) (hbase : base ≤ w.heap.size) (hgb : base ≤ g) (hN : N ≤ base) (hrs : RSN w N sv ss) (i : Nat) (s : State) (hi : ss[i]? = some s) (hok : okS s) (h256 : s.arcs.length ≤ 256) (hto : ∀ a ∈ s.arcs, 0 ≤ a.to ∧ a.to < (i : Int)) (hlen : ss.length ≤ 1000000) (hll : l.length ≤ 899990000) : Calls Tryz.prog 28 #[.pointer (some ⟨g, 0, none⟩), .int .i64 i] w fun e w1 => e = .returned (.tuple #[]) ∧ ∃ b1, LW w1 base g [sv, .int .u64 init] 87 b1 (l ++ stB i s) ∧ LF w g bv w1 b1 := by
 refine calls_of_wp Tryz.func28 rfl ?_
 refine Fact.en 71 fun fr hf hT => ?_
 have s0 := hT 0 _ rfl
 have s1 := hT 1 _ rfl
 clear hT
 obtain ⟨A, cc, rfl, hcc⟩ := hrs.form
 have hgl := heap_lt hlw.1
 have c1 : w.cell? ⟨g, 1, none⟩ = some (.slice A ss.length cc) := by rw [cell_of_row _ _ 1 _ _ (0, 0) hlw.1]; rfl
 obtain ⟨b, off, av, rfl, hbN, hat⟩ := hrs.at_ hi
 have d0 := hat.c0; have d1 := hat.c1; have d2 := hat.c2
 have hra := hat.arcs
 obtain ⟨A2, c2, rfl, _⟩ := hat.arcs.form
 have hil := (List.getElem?_eq_some_iff.1 hi).1
 have HI := Lib.hid hi; have HOK := Lib.hid hok; have HTO := Lib.hid hto; clear hi hat hok hto
 obtain ⟨hd, hhd⟩ : ∃ x, 2 * s.arcs.length = x := ⟨_, rfl⟩
 obtain ⟨h1, hh1⟩ : ∃ x, hd + 1 = x := ⟨_, rfl⟩
 have hdb : hd ≤ 512 := by omega
 have HHD := Lib.hid hhd; have HH1 := Lib.hid hh1; clear hhd hh1
 have hM : M64 = 18446744073709551616 := rfl
 refine Fact.sq fun K1 hK1 => ?_
 refine rg ?_
 have b8 := hf.b 8
 have b9 := hf.b 9
 have b10 := hf.b 10
 have b11 := hf.b 11
 have b12 := hf.b 12
 have b13 := hf.b 13
 have b14 := hf.b 14
 have b15 := hf.b 15
 have b4 := hf.b 4
 iterate 6 (refine fp fun K Z => ?_; go_simp; apply Z.out; clear Z K)
 refine fp fun K Z => ?_
 go_simp
 try rw [if_pos (by omega)]
 apply Z.out; clear Z K
 iterate 3 (refine fp fun K Z => ?_; go_simp; apply Z.out; clear Z K)
 refine Fact.z hf fun fr1 hf1 hT => ?_
 have hKp : _ ∧ _ ∧ _ := ⟨hT 0, hT 1, hT 4⟩
 simp (decide := true) only [Fact.G, hf.size, reduceIte, s0, s1] at hKp
 replace hf := hf1; clear hT hf1 s0 s1 b8 b9 b10 b11 b12 b13 b14 b15 b4
 obtain ⟨s0, s1, s4⟩ := hKp
 obtain ⟨W0, hW0⟩ : ∃ W0, w.alloc (.cells #[.slice A2 s.arcs.length c2, .bool s.final, .int .u64 s.out] 58) = W0 := ⟨_, rfl⟩
 try rw [hW0]
 obtain ⟨hb0, x0, x1, x2, -, hz0_⟩ := box3 hW0
 clear hW0
 have hz0 : w.heap.size < W0.heap.size := by rw [hz0_]; exact Nat.lt_succ_self _
 clear hz0_
 clear d0 d1 d2 c1
 have hlw0 := hlw.later hb0
 have hoff0 : bv.ownBlock ≠ some w.heap.size := fun e => by have := (World.ownsRow.lt hlw.2.1 _ e).2; omega
 refine nx (hK1 _ _ ?_)
 refine Fact.sq fun K2 hK2 => ?_
 refine rg ?_
 have b16 := hf.b 16
 have b17 := hf.b 17
 have b18 := hf.b 18
 have b19 := hf.b 19
 have b20 := hf.b 20
 iterate 3 (refine fp fun K Z => ?_; go_simp; apply Z.out; clear Z K)
 refine fp fun K Z => ?_
 go_simp
 try simp (disch := omega) only [Fact.W]
 rw [show (2 : Int) * (s.arcs.length : Int) = ((hd : Nat) : Int) by have := HHD.out; omega]
 apply Z.out; clear Z K
 refine fp fun K Z => ?_
 go_simp
 try simp (disch := omega) only [Fact.wrap_u64]
 apply Z.out; clear Z K
 refine fp fun K Z => ?_
 go_simp
 apply Z.out; clear Z K
 refine Fact.z hf fun fr1 hf1 hT => ?_
 have hKp : _ ∧ _ ∧ _ ∧ _ := ⟨hT 0, hT 1, hT 4, hT 5⟩
 simp (decide := true) only [Fact.G, hf.size, reduceIte, s0, s1, s4] at hKp
 replace hf := hf1; clear hT hf1 s0 s1 s4 b16 b17 b18 b19 b20
 obtain ⟨s0, s1, s4, s5⟩ := hKp
 refine nx (hK2 _ _ ?_)
 refine Fact.seq_meet (fun fr wq => ∃ b1, Fact.Fr 71 fr ∧ fr.tmps[0]? = some (.pointer (some ⟨g, 0, none⟩)) ∧ fr.tmps[1]? = some (.int .i64 i) ∧ fr.tmps[4]? = some (.pointer (some ⟨w.heap.size, 0, none⟩)) ∧ LW wq base g [.slice (some ⟨b, off, none⟩) ss.length cc, .int .u64 init] 87 b1 (l ++ headB s) ∧ LF w g bv wq b1 ∧ wq.cell? ⟨w.heap.size, 0, none⟩ = some (.slice A2 s.arcs.length c2)) ?_ ?_
 · (
 rcases hfin : s.final with _ | _
 · (
 have HFI := Lib.hid hfin
 rw [hfin] at x1
 clear hfin
 refine Fact.sq fun K3 hK3 => ?_
 refine rg ?_
 have b21 := hf.b 21
 iterate 2 (refine fp fun K Z => ?_; go_simp; apply Z.out; clear Z K)
 refine Fact.z hf fun fr1 hf1 hT => ?_
 have hKp : _ ∧ _ ∧ _ ∧ _ ∧ _ := ⟨hT 0, hT 1, hT 4, hT 5, hT 22⟩
 simp (decide := true) only [Fact.G, hf.size, reduceIte, s0, s1, s4, s5] at hKp
 replace hf := hf1; clear hT hf1 s0 s1 s4 s5 b21
 obtain ⟨s0, s1, s4, s5, s22⟩ := hKp
 refine nx (hK3 _ _ ?_)
 refine Fact.cond_f s22 ?_
 refine rg ?_
 have b32 := hf.b 32
 have b33 := hf.b 33
 have b34 := hf.b 34
 have b35 := hf.b 35
 have b36 := hf.b 36
 iterate 4 (refine fp fun K Z => ?_; go_simp; apply Z.out; clear Z K)
 refine fp fun K Z => ?_
 go_simp
 obtain ⟨W4, hW4⟩ : ∃ x, W0.alloc (.cells #[.int .u64 (hd : Nat)] 31) = x := ⟨_, rfl⟩
 try rw [hW4]
 have hn36 : RN W4 W4.heap.size (.slice (some ⟨W0.heap.size, 0, none⟩) 1 1) [hd] := by rw [← hW4]; exact rn_new W0 [hd] _
 have hx : Below W0.heap.size W0 W4 := by rw [← hW4]; exact (Below.refl _ _).alloc (Nat.le_refl _) _
 clear hW4
 apply Z.out; clear Z K
 refine fp fun K Z => ?_
 go_simp
 go_at_call 27; refine (num29 W4 base g _ _ bv _ (hlw0.later hx) (by have := hb0.size; have := hx.size; omega) [hd] _ hn36 (by simp) (by have := HHD.out; intro x hx; simp at hx; omega) (by omega)).mono ?_; rintro e w2 ⟨rfl, b1, hl1, hf1⟩
 try dsimp only
 apply Z.out; clear Z K
 refine Fact.z hf fun fr1 hf1 hT => ?_
 have hKp : _ ∧ _ ∧ _ := ⟨hT 0, hT 1, hT 4⟩
 simp (decide := true) only [Fact.G, reduceIte, s0, s1, s4] at hKp
 replace hf := hf1; clear hT hf1 s0 s1 s4 s5 s22 b32 b33 b34 b35 b36
 obtain ⟨s0, s1, s4⟩ := hKp
 have hf01 := (LF.of_below g bv hb0).trans ((LF.of_below g bv hx).trans hf1)
 have xa := hf1.cell (cL hx x0) (by intro e; have e : w.heap.size = g := e; omega) hoff0
 have hlh : LW w2 base g [.slice (some ⟨b, off, none⟩) ss.length cc, .int .u64 init] 87 b1 (l ++ headB s) := by have h9 := hl1; rw [← HHD.out] at h9; unfold headB; rw [HFI.out]; exact h9
 refine Fact.then_normal ?_
 exact ⟨b1, hf, s0, s1, s4, hlh, hf01, xa⟩)
 · (
 have HFI := Lib.hid hfin
 rw [hfin] at x1
 clear hfin
 refine Fact.sq fun K4 hK4 => ?_
 refine rg ?_
 have b21 := hf.b 21
 iterate 2 (refine fp fun K Z => ?_; go_simp; apply Z.out; clear Z K)
 refine Fact.z hf fun fr1 hf1 hT => ?_
 have hKp : _ ∧ _ ∧ _ ∧ _ ∧ _ := ⟨hT 0, hT 1, hT 4, hT 5, hT 22⟩
 simp (decide := true) only [Fact.G, hf.size, reduceIte, s0, s1, s4, s5] at hKp
 replace hf := hf1; clear hT hf1 s0 s1 s4 s5 b21
 obtain ⟨s0, s1, s4, s5, s22⟩ := hKp
 refine nx (hK4 _ _ ?_)
 refine Fact.cond_t s22 ?_
 refine Stab.tb 71 fun hok => ?_
 refine Stab.mO 0 s0 hf hok ?_
 apply Stab.tq 1 _ hf hok
 · (
 intro fr1 w1 hh hd hk K Z
 have s23 := Stab.v 0 0 hd hk []
 clear hd
 go_simp
 exact Stab.k Z)
 apply Stab.tq 2 _ hf hok
 · (
 intro fr1 w1 hh hd hk K Z
 have s24 := Stab.v 1 0 hd hk []
 clear hd
 go_simp
 exact Stab.k Z)
 refine Stab.mO 3 s5 hf hok ?_
 apply Stab.tq 4 _ hf hok
 · (
 intro fr1 w1 hh hd hk K Z
 have s26 := Stab.v 3 0 hd hk []
 clear hd
 go_simp
 try simp (disch := omega) only [Fact.W]
 rw [show ((hd : Nat) : Int) + 1 = ((h1 : Nat) : Int) by have := HH1.out; omega]
 exact Stab.k Z)
 apply Stab.tq 5 _ hf hok
 · (
 intro fr1 w1 hh hd hk K Z
 have s4 := Stab.O hh s4
 clear hd
 go_simp
 exact Stab.k Z)
 apply Stab.tq 6 _ hf hok
 · (
 intro fr1 w1 hh hd hk K Z
 have s28 := Stab.v 5 0 hd hk []
 clear hd
 replace x2 := cL hh.ext x2
 go_simp
 exact Stab.k Z)
 refine Stab.todo_op (k := 7) (n := 71) (RNs [h1, s.out]) hf.size hok.out rfl (RNs.stable _) ?_ ?_
 · (
 intro fr1 w1 hh hd hk K Z
 refine Stab.pl ?_
 have s27 := Stab.v 4 2 hd hk []
 have s29 := Stab.v 6 0 hd hk []
 clear hd
 go_simp
 exact Z.out _ rfl _ _ ((Below.refl _ _).alloc (Nat.le_refl _) _) (rn_new _ [h1, s.out] _))
 refine Tail.todo_tail (n := 71) (m := 8) (ws := [(8, 0, [2, 1]), (8, 1, [2]), (8, 3, [7, 4]), (8, 4, [7]), (8, 5, [7, 6]), (8, 6, [7])]) (by kernel_rfl) hf.size hok.out rfl rfl (by kernel_rfl) (fun fr1 w1 hh hg => ?_)
 replace s0 := Stab.O hh s0
 replace s1 := Stab.O hh s1
 replace s4 := Stab.O hh s4
 have s25 := Tail.got_is 2 5 hg rfl rfl rfl rfl rfl
 obtain ⟨x30, s30, hp30⟩ := Tail.got_use (j := 7) (m := 0) hg rfl rfl rfl rfl rfl
 have hn30 := hp30
 have hf1 := hh.fr hf
 have hx := hh.ext
 replace x2 := cL hx x2
 clear hg hh hf hok s5 s22
 have hf := hf1; clear hf1
 refine Tail.seq_op rfl rfl (fun K Z => ?_)
 go_simp
 go_at_call 27; refine (num29 _ base g _ _ bv _ (hlw0.later hx) (by have := hb0.size; have := hx.size; omega) [h1, s.out] _ hn30 (by simp) (by have := HH1.out; have := HHD.out; have := HOK.out.1; intro x hx; simp at hx; rcases hx with rfl | rfl <;> omega) (by omega)).mono ?_; rintro e w2 ⟨rfl, b1, hl1, hf1⟩
 try dsimp only
 apply Z.out; clear Z K
 refine Tail.seq_nil rfl ?_
 refine Fact.q hf (by simp only [Fact.G]) rfl fun fr1 hf1 hT => ?_
 have hKp : _ ∧ _ ∧ _ := ⟨hT 0, hT 1, hT 4⟩
 simp (decide := true) only [Fact.G, reduceIte, s0, s1, s4] at hKp
 replace hf := hf1; clear hT hf1 s0 s1 s4 s25 s30
 obtain ⟨s0, s1, s4⟩ := hKp
 have hf01 := (LF.of_below g bv hb0).trans ((LF.of_below g bv hx).trans hf1)
 have xa := hf1.cell (cL hx x0) (by intro e; have e : w.heap.size = g := e; omega) hoff0
 have hlh : LW w2 base g [.slice (some ⟨b, off, none⟩) ss.length cc, .int .u64 init] 87 b1 (l ++ headB s) := by have h9 := hl1; rw [← HH1.out, ← HHD.out] at h9; unfold headB; rw [HFI.out]; exact h9
 refine Fact.then_normal ?_
 exact ⟨b1, hf, s0, s1, s4, hlh, hf01, xa⟩))
 · (
 clear hf s0 s1 s4 s5
 rintro fr wq ⟨b1, hf, s0, s1, s4, hl1, hf1, x0⟩
 refine Fact.sq fun K5 hK5 => ?_
 refine rg ?_
 have b38 := hf.b 38
 have b39 := hf.b 39
 iterate 4 (refine fp fun K Z => ?_; go_simp; apply Z.out; clear Z K)
 refine Fact.z hf fun fr1 hf1 hT => ?_
 have hKp : _ ∧ _ ∧ _ ∧ _ ∧ _ := ⟨hT 0, hT 1, hT 39, hT 40, hT 41⟩
 simp (decide := true) only [Fact.G, hf.size, reduceIte, s0, s1] at hKp
 replace hf := hf1; clear hT hf1 s0 s1 s4 b38 b39
 obtain ⟨s0, s1, s39, s40, s41⟩ := hKp
 refine nx (hK5 _ _ ?_)
 refine wp_block ?_
 refine wp_loop_ghost (fun gk fr wr => ∃ (k : Nat) (b1 : Value), gk = s.arcs.length - k ∧ k ≤ s.arcs.length ∧ Fact.Fr 71 fr ∧ fr.tmps[0]? = some (.pointer (some ⟨g, 0, none⟩)) ∧ fr.tmps[1]? = some (.int .i64 i) ∧ fr.tmps[39]? = some (.slice A2 s.arcs.length c2) ∧ fr.tmps[40]? = some (.int .i64 s.arcs.length) ∧ fr.tmps[41]? = some (.int .i64 k) ∧ LW wr base g [.slice (some ⟨b, off, none⟩) ss.length cc, .int .u64 init] 87 b1 (l ++ headB s ++ arcsB i (s.arcs.take k)) ∧ LF w g bv wr b1) (s.arcs.length) ?_ ?_
 · (
 exact ⟨0, b1, rfl, Nat.zero_le _, hf, s0, s1, s39, s40, s41, by simpa [arcsB] using hl1, hf1⟩)
 · (
 clear hf s0 s1 s39 s40 s41
 rintro gk fr wr ⟨k, b1, hk, hki, hf, s0, s1, s39, s40, s41, hl1, hf1⟩
 have HK := Lib.hid hk; clear hk
 refine Fact.sq fun K6 hK6 => ?_
 refine rg ?_
 refine fp fun K Z => ?_
 go_simp
 apply Z.out; clear Z K
 refine Fact.z hf fun fr1 hf1 hT => ?_
 have hKp : _ ∧ _ ∧ _ ∧ _ ∧ _ ∧ _ := ⟨hT 0, hT 1, hT 39, hT 40, hT 41, hT 42⟩
 simp (decide := true) only [Fact.G, hf.size, reduceIte, s0, s1, s39, s40, s41] at hKp
 replace hf := hf1; clear hT hf1 s0 s1 s39 s40 s41
 obtain ⟨s0, s1, s39, s40, s41, s42⟩ := hKp
 refine nx (hK6 _ _ ?_)
 refine Fact.sq fun K7 hK7 => ?_
 refine Fact.cond_s s42 (fun hq => ?_) (fun hq => ?_)
 · (
 have hklt : k < s.arcs.length := by have h9 := of_decide_eq_true hq; omega
 clear hq
 obtain ⟨a, hka⟩ : ∃ a, s.arcs[k]? = some a := ⟨_, List.getElem?_eq_getElem hklt⟩
 have hbl := hf1.below hbase hgb hlw.lo
 obtain ⟨b3, off3, rfl, hb3, y0, y1, y2⟩ := (hra.but (below_but (hbl.mono (Nat.le_refl _) |> fun h => below_less h hN)) (fun k h1 h2 => by omega)).at' hka
 have hao := HOK.out.2.2 a (List.mem_of_getElem? hka)
 have hat := HTO.out a (List.mem_of_getElem? hka)
 obtain ⟨q, hq⟩ : ∃ q : Nat, a.to = (q : Int) := ⟨a.to.toNat, by omega⟩
 rw [hq] at y2
 obtain ⟨dd, hdd⟩ : ∃ x, i - q = x := ⟨_, rfl⟩
 have hdb2 : dd ≤ 1000000 := by omega
 have hst := arcsB_take (i := i) hka
 have hlen : (arcsB i (s.arcs.take k)).length ≤ 19 * s.arcs.length := arcsB_le i k (fun x hx => HOK.out.2.2 x hx) (by omega)
 have hhl := headB_le HOK.out.1 (by omega : s.arcs.length ≤ 1000)
 obtain ⟨l1, hl1e⟩ : ∃ x, l ++ headB s ++ arcsB i (s.arcs.take k) = x := ⟨_, rfl⟩
 have hll1 : l1.length ≤ l.length + 18 + 19 * s.arcs.length := by rw [← hl1e]; simp only [List.length_append]; omega
 rw [hl1e] at hl1
 have hte : a.to.toNat = q := by omega
 have hab := hao.1; have hao2 := hao.2.1
 have hqi : q < i := by have := hat.2; omega
 have HST := Lib.hid hst; have HL1 := Lib.hid hl1e; have HDD := Lib.hid hdd; have HTE := Lib.hid hte; clear hst hl1e hdd hte hka hao hat hlen hhl hq
 refine wp_skip ?_
 refine nx (hK7 _ _ ?_)
 refine Fact.sq fun K8 hK8 => ?_
 refine wp_block ?_
 refine Fact.sq fun K9 hK9 => ?_
 refine rg ?_
 have b43 := hf.b 43
 have b44 := hf.b 44
 have b7 := hf.b 7
 refine fp fun K Z => ?_
 go_simp
 try rw [if_pos (by omega)]
 apply Z.out; clear Z K
 iterate 3 (refine fp fun K Z => ?_; go_simp; apply Z.out; clear Z K)
 refine Fact.z hf fun fr1 hf1 hT => ?_
 have hKp : _ ∧ _ ∧ _ ∧ _ ∧ _ ∧ _ := ⟨hT 0, hT 1, hT 7, hT 39, hT 40, hT 41⟩
 simp (decide := true) only [Fact.G, hf.size, reduceIte, s0, s1, s39, s40, s41] at hKp
 replace hf := hf1; clear hT hf1 s0 s1 s39 s40 s41 s42 b43 b44 b7
 obtain ⟨s0, s1, s7, s39, s40, s41⟩ := hKp
 obtain ⟨W7, hW7⟩ : ∃ W0, wr.alloc (.cells #[.int .u8 a.byte, .int .u64 a.out, .int .i64 (q : Nat)] 60) = W0 := ⟨_, rfl⟩
 try rw [hW7]
 obtain ⟨hb7, z0, z1, z2, -, hz7_⟩ := box3 hW7
 clear hW7
 have hz7 : wr.heap.size < W7.heap.size := by rw [hz7_]; exact Nat.lt_succ_self _
 clear hz7_
 clear y0 y1 y2
 have hl7 := hl1.later hb7
 have hf7 := LF.of_below g b1 hb7
 have hoff7 : b1.ownBlock ≠ some wr.heap.size := fun e => by have := (World.ownsRow.lt hl1.2.1 _ e).2; omega
 have hgr := heap_lt hl1.1
 have hxg := hl7.1
 have how7 := hl7.2.1
 have hne7 := hl7.2.2
 have hg7 := heap_lt hxg
 have hbw7 : base ≤ W7.heap.size := by have := hf1.1.size; have := hb7.size; omega
 refine nx (hK9 _ _ ?_)
 refine Fact.sq fun K10 hK10 => ?_
 refine Stam.todo_begin (n := 71) (fun _ k => k = g ∨ b1.ownBlock = some k) [9, 13] (Stab.OkOps.of (by kernel_rfl)) (fun hok => ?_)
 refine Stam.mvO (k := 0) s0 hf.size hok.out rfl (by kernel_rfl) rfl rfl (.inl rfl) (by kernel_rfl) ?_
 refine Stam.mvO (k := 1) s0 hf.size hok.out rfl (by kernel_rfl) rfl rfl (.inl rfl) (by kernel_rfl) ?_
 apply Stam.tq 2 _ hf hok
 · (
 intro fr1 w1 hh hd hk K Z
 refine Stab.pl ?_
 have s46 := Stam.v 1 0 hd hk []
 have hxe := Stam.ext_at hh [(9, [5, 4, 3]), (13, [])] (by kernel_rfl)
 have hbt := Stam.but_at hh [] [(9, [5, 4, 3]), (13, [])] (by kernel_rfl)
 clear hd hh
 go_simp
 exact Stab.k Z)
 apply Stam.tq 3 _ hf hok
 · (
 intro fr1 w1 hh hd hk K Z
 refine Stab.pl ?_
 have s47 := Stam.v 2 0 hd hk []
 have hxe := Stam.ext_at hh [(9, [5, 4]), (13, [])] (by kernel_rfl)
 have hbt := Stam.but_at hh [] [(9, [5, 4]), (13, [])] (by kernel_rfl)
 clear hd hh
 go_simp
 exact Stab.k Z)
 apply Stam.tq 4 _ hf hok
 · (
 intro fr1 w1 hh hd hk K Z
 refine Stab.pl ?_
 have s48 := Stam.v 3 0 hd hk []
 have hxe := Stam.ext_at hh [(9, [5]), (13, [])] (by kernel_rfl)
 have hbt := Stam.but_at hh [] [(9, [5]), (13, [])] (by kernel_rfl)
 clear hd hh
 go_simp
 exact Stab.k Z)
 apply Stam.tq 5 _ hf hok
 · (
 intro fr1 w1 hh hd hk K Z
 refine Stab.pl ?_
 have s49 := Stam.v 4 0 hd hk []
 have hxe := Stam.ext_at hh [(9, []), (13, [])] (by kernel_rfl)
 have hbt := Stam.but_at hh [] [(9, []), (13, [])] (by kernel_rfl)
 clear hd hh
 have u0 := cell_of_row _ _ 0 _ 87 (0, 0) ((hxe.block g hg7).trans hxg)
 simp at u0
 go_simp
 exact Stab.k Z)
 apply Stam.tq 6 _ hf hok
 · (
 intro fr1 w1 hh hd hk K Z
 refine Stab.pl ?_
 have s7 := Stam.o hh (by kernel_rfl) s7
 have hxe := Stam.ext_at hh [(9, [8, 7]), (13, [])] (by kernel_rfl)
 have hbt := Stam.but_at hh [] [(9, [8, 7]), (13, [])] (by kernel_rfl)
 clear hd hh
 go_simp
 exact Stab.k Z)
 apply Stam.tq 7 _ hf hok
 · (
 intro fr1 w1 hh hd hk K Z
 refine Stab.pl ?_
 have s51 := Stam.v 6 0 hd hk []
 have hxe := Stam.ext_at hh [(9, [8]), (13, [])] (by kernel_rfl)
 have hbt := Stam.but_at hh [] [(9, [8]), (13, [])] (by kernel_rfl)
 clear hd hh
 have u1 := cL hxe z0
 go_simp
 exact Stab.k Z)
 refine Stam.todo_op (k := 8) (n := 71) (PLit [.int .u8 (a.byte : Nat)]) hf.size hok.out rfl (PLit.stable _) (by kernel_rfl) ?_ ?_
 · (
 intro fr1 w1 hh hd hk K Z
 refine Stab.pl ?_
 have s52 := Stam.v 7 0 hd hk []
 have hxe := Stam.ext_at hh [(9, []), (13, [])] (by kernel_rfl)
 have hbt := Stam.but_at hh [] [(9, []), (13, [])] (by kernel_rfl)
 clear hd hh
 go_simp
 exact Z.out _ rfl _ _ ((Below.refl _ _).alloc (Nat.le_refl _) _) ⟨_, rfl, lit_new _ _ _⟩)
 refine Stam.todo_sp (k := 9) (n := 71) (PRowN W7 base g b1 [.slice (some ⟨b, off, none⟩) ss.length cc, .int .u64 init] 87 (l1 ++ [a.byte])) hf.size hok.out rfl (PRowN.stable _ _ _ _ _ _ _) (by kernel_rfl) ?_ ?_
 · (
 intro fr1 w1 hh hd hk K Z
 refine Stab.pl ?_
 have s50 := Stam.v 5 3 hd hk []
 obtain ⟨x53, s53, hp53⟩ := Stam.use (j := 8) (m := 0) hd hk rfl [] (by kernel_rfl) [(13, true, [])] (by kernel_rfl) rfl rfl rfl
 obtain ⟨b53, rfl, hc53⟩ := hp53
 have hxe := Stam.ext_at hh [(13, [])] (by kernel_rfl)
 have hbt := Stam.but_at hh [] [(13, [])] (by kernel_rfl)
 clear hd hh
 have how2 := own_later how7 hxe
 have hx2 := (hxe.block g hg7).trans hxg
 refine wp_app _ _ 23 rfl 5 _ 1 1 Tryz.underlying23 info_u8 rfl (by decide) (by decide) base b1 l1.length (bcs l1) (Fact.eval_tmp s50) how2 b53 [.int .u8 (a.byte : Nat)] (Fact.eval_tmp s53) rfl hc53 (by intro u hu; simp at hu; subst hu; rfl) (by omega) (by have := hxe.size; omega) (fun v2 w2 hr3 hg3 hat3 => ?_)
 exact Z.out _ rfl _ _ (But.grown hg3 (fun k hk => .inr hk)) ⟨by unfold OB; rw [List.length_append, bcs_append]; exact hr3, hat3.imp id (fun h => ⟨_, h, hxe.size⟩), (hg3.block g (heap_lt hx2) (fun e => hne7 e.symm)).trans hx2⟩)
 apply Stam.tq 10 _ hf hok
 · (
 intro fr1 w1 hh hd hk K Z
 refine Stab.pl ?_
 have s45 := Stam.v 0 9 hd hk []
 have hbt := Stam.but_at hh [9] [(13, [12, 11])] (by kernel_rfl)
 clear hd hh
 go_simp
 exact Stab.k Z)
 apply Stam.tq 11 _ hf hok
 · (
 intro fr1 w1 hh hd hk K Z
 refine Stab.pl ?_
 have s55 := Stam.v 10 0 hd hk []
 have hbt := Stam.but_at hh [9] [(13, [12])] (by kernel_rfl)
 clear hd hh
 go_simp
 exact Stab.k Z)
 apply Stam.tq 12 _ hf hok
 · (
 intro fr1 w1 hh hd hk K Z
 refine Stab.pl ?_
 have s56 := Stam.v 11 0 hd hk []
 have hbt := Stam.but_at hh [9] [(13, [])] (by kernel_rfl)
 clear hd hh
 go_simp
 exact Stab.k Z)
 refine Stam.todo_sp (k := 13) (n := 71) (PEndN W7 base g b1 [.slice (some ⟨b, off, none⟩) ss.length cc, .int .u64 init] 87 (l1 ++ [a.byte])) hf.size hok.out rfl (PEndN.stable _ _ _ _ _ _ _) (by kernel_rfl) ?_ ?_
 · (
 intro fr1 w1 hh hd hk K Z
 refine Stab.pl ?_
 have s57 := Stam.v 12 0 hd hk []
 obtain ⟨x54, s54, hp54⟩ := Stam.use (j := 9) (m := 3) hd hk rfl [] (by kernel_rfl) [] (by kernel_rfl) rfl rfl rfl
 obtain ⟨hr54, hl54, hx54⟩ := hp54
 have hbt := Stam.but_at hh [9] [] (by kernel_rfl)
 clear hd hh
 have z00 := cell_of_row _ _ 0 _ 87 (0, 0) hx54
 simp at z00
 have fz := frozen_of (i := 0) hx54
 obtain ⟨A9, c9, hv9, _⟩ := row_form hr54
 subst hv9
 go_simp
 refine Z.out _ rfl undef _ (But.setCell (.inl rfl) _) ⟨_, own_but hr54 (But.setCell (S := fun k => k = g) rfl _) (fun kk hkk e => by subst e; exact PRowN.ne ⟨hr54, hl54, hx54⟩ hne7 hg7 hkk), hl54, (set_block (i := 0) hx54 _).trans (by simp)⟩)
 refine Stam.todo_facts (n := 71) (by kernel_rfl) hf.size hok.out rfl (fun fr1 w1 hh hg => ?_)
 replace s0 := Stam.o hh (by kernel_rfl) s0
 replace s1 := Stam.o hh (by kernel_rfl) s1
 replace s7 := Stam.o hh (by kernel_rfl) s7
 replace s39 := Stam.o hh (by kernel_rfl) s39
 replace s40 := Stam.o hh (by kernel_rfl) s40
 replace s41 := Stam.o hh (by kernel_rfl) s41
 obtain ⟨_, hlast⟩ := Stam.end_fact (j := 13) (m := 0) hg rfl (by decide) [(9, [])] (by kernel_rfl) rfl
 have hf1 := hh.fr hf
 have hbt := hh.but
 clear hg hh hf hok
 have hf := hf1; clear hf1
 obtain ⟨v6, hr6, hl6, hx6⟩ := hlast
 replace hbt := hbt (fun k => k = g ∨ b1.ownBlock = some k) (fun m _ b h => h)
 have hl8 : LW w1 base g [.slice (some ⟨b, off, none⟩) ss.length cc, .int .u64 init] 87 v6 (l1 ++ [a.byte]) := ⟨hx6, hr6, PEndN.ne hl6 hne7 hg7⟩
 have hf8 : LF W7 g b1 w1 v6 := ⟨hbt, hl6⟩
 have u1 := hf8.cell z1 (by intro e; have e : wr.heap.size = g := e; omega) hoff7
 have u2 := hf8.cell z2 (by intro e; have e : wr.heap.size = g := e; omega) hoff7
 have hf08 := hf1.trans (hf7.trans hf8)
 clear z0 z1 z2 hx6 hr6 hl6 hbt hl7 hxg how7
 refine nx (hK10 _ _ ?_)
 refine Stab.tb 71 fun hok => ?_
 refine Stab.mO 0 s0 hf hok ?_
 apply Stab.tq 1 _ hf hok
 · (
 intro fr1 w1 hh hd hk K Z
 have s58 := Stab.v 0 0 hd hk []
 clear hd
 go_simp
 exact Stab.k Z)
 apply Stab.tq 2 _ hf hok
 · (
 intro fr1 w1 hh hd hk K Z
 have s59 := Stab.v 1 0 hd hk []
 clear hd
 go_simp
 exact Stab.k Z)
 apply Stab.tq 3 _ hf hok
 · (
 intro fr1 w1 hh hd hk K Z
 have s7 := Stab.O hh s7
 clear hd
 go_simp
 exact Stab.k Z)
 apply Stab.tq 4 _ hf hok
 · (
 intro fr1 w1 hh hd hk K Z
 have s61 := Stab.v 3 0 hd hk []
 clear hd
 replace u1 := cL hh.ext u1
 replace u2 := cL hh.ext u2
 go_simp
 exact Stab.k Z)
 refine Stab.mO 5 s1 hf hok ?_
 apply Stab.tq 6 _ hf hok
 · (
 intro fr1 w1 hh hd hk K Z
 have s7 := Stab.O hh s7
 clear hd
 go_simp
 exact Stab.k Z)
 apply Stab.tq 7 _ hf hok
 · (
 intro fr1 w1 hh hd hk K Z
 have s64 := Stab.v 6 0 hd hk []
 clear hd
 replace u1 := cL hh.ext u1
 replace u2 := cL hh.ext u2
 go_simp
 exact Stab.k Z)
 apply Stab.tq 8 _ hf hok
 · (
 intro fr1 w1 hh hd hk K Z
 have s63 := Stab.v 5 2 hd hk []
 have s65 := Stab.v 7 0 hd hk []
 clear hd
 go_simp
 try simp (disch := omega) only [Fact.W]
 rw [show ((i : Nat) : Int) - (q : Nat) = ((dd : Nat) : Int) by have := HDD.out; omega]
 exact Stab.k Z)
 apply Stab.tq 9 _ hf hok
 · (
 intro fr1 w1 hh hd hk K Z
 have s66 := Stab.v 8 0 hd hk []
 clear hd
 go_simp
 try simp (disch := omega) only [Fact.wrap_u64]
 exact Stab.k Z)
 refine Stab.todo_op (k := 10) (n := 71) (RNs [a.out, dd]) hf.size hok.out rfl (RNs.stable _) ?_ ?_
 · (
 intro fr1 w1 hh hd hk K Z
 refine Stab.pl ?_
 have s62 := Stab.v 4 5 hd hk []
 have s67 := Stab.v 9 0 hd hk []
 clear hd
 go_simp
 exact Z.out _ rfl _ _ ((Below.refl _ _).alloc (Nat.le_refl _) _) (rn_new _ [a.out, dd] _))
 refine Tail.todo_tail (n := 71) (m := 11) (ws := [(11, 0, [2, 1]), (11, 1, [2]), (11, 3, [10, 4]), (11, 4, [10]), (11, 5, [10, 9, 8]), (11, 6, [10, 9, 8, 7]), (11, 7, [10, 9, 8]), (11, 8, [10, 9]), (11, 9, [10])]) (by kernel_rfl) hf.size hok.out rfl rfl (by kernel_rfl) (fun fr1 w1 hh hg => ?_)
 replace s0 := Stab.O hh s0
 replace s1 := Stab.O hh s1
 replace s39 := Stab.O hh s39
 replace s40 := Stab.O hh s40
 replace s41 := Stab.O hh s41
 have s60 := Tail.got_is 2 8 hg rfl rfl rfl rfl rfl
 obtain ⟨x68, s68, hp68⟩ := Tail.got_use (j := 10) (m := 0) hg rfl rfl rfl rfl rfl
 have hn68 := hp68
 have hf1 := hh.fr hf
 have hx := hh.ext
 replace u1 := cL hx u1
 replace u2 := cL hx u2
 clear hg hh hf hok s7
 have hf := hf1; clear hf1
 refine Tail.seq_op rfl rfl (fun K Z => ?_)
 go_simp
 go_at_call 27; refine (num29 _ base g _ _ v6 _ (hl8.later hx) (by have := hf08.1.size; have := hx.size; omega) [a.out, dd] _ hn68 (by simp) (by have := HDD.out; intro x hx; simp at hx; rcases hx with rfl | rfl <;> omega) (by simp; omega)).mono ?_; rintro e w9 ⟨rfl, v9, hl9, hf9⟩
 try dsimp only
 apply Z.out; clear Z K
 refine Tail.seq_nil rfl ?_
 refine Fact.q hf (by simp only [Fact.G]) rfl fun fr1 hf1 hT => ?_
 have hKp : _ ∧ _ ∧ _ ∧ _ ∧ _ := ⟨hT 0, hT 1, hT 39, hT 40, hT 41⟩
 simp (decide := true) only [Fact.G, reduceIte, s0, s1, s39, s40, s41] at hKp
 replace hf := hf1; clear hT hf1 s0 s1 s39 s40 s41 s60 s68
 obtain ⟨s0, s1, s39, s40, s41⟩ := hKp
 have hf09 := hf08.trans ((LF.of_below g v6 hx).trans hf9)
 have hl99 : LW w9 base g [.slice (some ⟨b, off, none⟩) ss.length cc, .int .u64 init] 87 v9 (l ++ headB s ++ arcsB i (s.arcs.take (k + 1))) := by have h9 := hl9; rw [List.append_assoc, show [a.byte] ++ numsB [a.out, dd] = arcB i a by unfold arcB; rw [HTE.out, HDD.out]; rfl, ← HL1.out] at h9; rw [HST.out]; simpa [List.append_assoc] using h9
 refine Fact.block_normal ?_
 refine nx (hK8 _ _ ?_)
 refine rg ?_
 have b70 := hf.b 70
 refine fp fun K Z => ?_
 go_simp
 try simp (disch := omega) only [Fact.W]
 apply Z.out; clear Z K
 refine fp fun K Z => ?_
 go_simp
 apply Z.out; clear Z K
 refine Fact.z hf fun fr1 hf1 hT => ?_
 have hKp : _ ∧ _ ∧ _ ∧ _ ∧ _ := ⟨hT 0, hT 1, hT 39, hT 40, hT 41⟩
 simp (decide := true) only [Fact.G, hf.size, reduceIte, s0, s1, s39, s40] at hKp
 replace hf := hf1; clear hT hf1 s0 s1 s39 s40 s41 b70
 obtain ⟨s0, s1, s39, s40, s41⟩ := hKp
 refine Fact.then_normal ?_
 exact ⟨_, by have := HK.out; omega, k + 1, v9, rfl, by omega, hf, s0, s1, s39, s40, by rw [s41]; rfl, hl99, hf09⟩)
 · (
 have hke : k = s.arcs.length := by have h9 := of_decide_eq_false hq; omega
 have HKE := Lib.hid hke; clear hke hq
 refine wp_exit ?_
 refine Fact.then_exit ?_
 refine Fact.then_exit ?_
 refine Fact.block_exit ?_
 refine Fact.end0 rfl hf ⟨rfl, b1, ?_, hf1⟩
 have h9 := hl1
 rw [HKE.out, List.take_length, List.append_assoc] at h9
 exact h9)))
end Dw
end Go.Proofs.YtdkbgbdgmihlmaaGreatDoor
