/- pack: a writer lays numbers. -/
import Derived.Test.YtdkbgbdgmihlmaaDoorPAppS
import Derived.Test.YtdkbgbdgmihlmaaDoorTools
namespace Go.Proofs.YtdkbgbdgmihlmaaDoor
open Go.RowKit
set_option linter.unusedSimpArgs false
set_option linter.unusedVariables false
set_option linter.unnecessarySimpa false
namespace Dw

theorem numsB_small : ∀ {l : List Nat}, (∀ n ∈ l, n < M64) → Small (numsB l)
  | [], _ => Small.nil
  | x :: l, h => by
    have e : numsB (x :: l) = numB x ++ numsB l := by simp [numsB]
    rw [e]
    exact (numB_small (h x (List.mem_cons_self ..))).append (numsB_small (fun n hn => h n (List.mem_cons_of_mem _ hn)))
def PRowN (w0 : World) (base g : Nat) (bv : Value) (rest : List Value) (t : TypeId) (l : List Nat) : Stab.Pr := fun v w => OB w base v l ∧ (v.ownBlock = bv.ownBlock ∨ ∃ k, v.ownBlock = some k ∧ w0.heap.size ≤ k) ∧ w.heap[g]? = some (.cells (bv :: rest).toArray t (0, 0))
theorem PRowN.stable (w0 : World) (base g : Nat) (bv : Value) (rest : List Value) (t : TypeId) (l : List Nat) : Stab.Stable (PRowN w0 base g bv rest t l) := fun v w w' hb ⟨h1, h2, h3⟩ => ⟨own_later h1 hb, h2, (hb.block g (heap_lt h3)).trans h3⟩
theorem PEndN.ne {w0 : World} {g : Nat} {bv v : Value} (h : v.ownBlock = bv.ownBlock ∨ ∃ k, v.ownBlock = some k ∧ w0.heap.size ≤ k) (hne : bv.ownBlock ≠ some g) (hg : g < w0.heap.size) : v.ownBlock ≠ some g := by
  rcases h with e | ⟨k, e, h2⟩
  · rw [e]; exact hne
  · rw [e]; intro e2; injection e2 with e2; omega
theorem PRowN.ne {w w0 : World} {base g : Nat} {bv v : Value} {rest : List Value} {t : TypeId} {l : List Nat} (h : PRowN w0 base g bv rest t l v w) (hne : bv.ownBlock ≠ some g) (hg : g < w0.heap.size) : v.ownBlock ≠ some g := PEndN.ne h.2.1 hne hg
def PEndN (w0 : World) (base g : Nat) (bv : Value) (rest : List Value) (t : TypeId) (l : List Nat) : Stab.Pr := fun _ w => ∃ v, OB w base v l ∧ (v.ownBlock = bv.ownBlock ∨ ∃ k, v.ownBlock = some k ∧ w0.heap.size ≤ k) ∧ w.heap[g]? = some (.cells (v :: rest).toArray t (0, 0))
theorem PEndN.stable (w0 : World) (base g : Nat) (bv : Value) (rest : List Value) (t : TypeId) (l : List Nat) : Stab.Stable (PEndN w0 base g bv rest t l) := fun _ w w' hb ⟨v, h1, h2, h3⟩ => ⟨v, own_later h1 hb, h2, (hb.block g (heap_lt h3)).trans h3⟩
set_option maxHeartbeats 4000000 in
set_option maxRecDepth 100000 in
theorem num29 (w : World) (base g : Nat) (rest : List Value) (t : TypeId) (bv : Value) (l : List Nat) (hlw : LW w base g rest t bv l) (hbase : base ≤ w.heap.size) (ns : List Nat) (v : Value) (hrn : RN w w.heap.size v ns) (hlen : ns.length ≤ 1000) (hsm : ∀ n ∈ ns, n < M64) (hll : l.length ≤ 900000000) : Calls Tryd.prog 29 #[.pointer (some ⟨g, 0, none⟩), v] w fun e w1 => e = .returned (.tuple #[]) ∧ ∃ b1, LW w1 base g rest t b1 (l ++ numsB ns) ∧ LF w g bv w1 b1 := by
 refine calls_of_wp Tryd.func29 rfl ?_
 refine Fact.en 14 fun fr hf hT => ?_
 have s0 := hT 0 _ rfl
 have s1 := hT 1 _ rfl
 clear hT
 obtain ⟨hx, how, hne⟩ := hlw
 have hlt := heap_lt hx
 have hlo := fun k hk => (World.ownsRow.lt how k hk).1
 have hgb := (heap_lt hx)
 obtain ⟨L2, hL2⟩ : ∃ x, numsB ns = x := ⟨_, rfl⟩
 have hL2s : Small L2 := by rw [← hL2]; exact numsB_small hsm
 have hL2l : L2.length ≤ 9 * ns.length := by rw [← hL2]; exact numsB_len0 ns hsm
 have HL2 := Lib.hid hL2; have HSM := Lib.hid hsm; clear hL2 hsm
 refine Stam.todo_begin (n := 14) (fun _ k => k = g ∨ bv.ownBlock = some k) [7, 10] (Stab.OkOps.of (by kernel_rfl)) (fun hok => ?_)
 refine Stam.mvO (k := 0) s0 hf.size hok.out rfl (by kernel_rfl) rfl rfl (.inl rfl) (by kernel_rfl) ?_
 refine Stam.mvO (k := 1) s0 hf.size hok.out rfl (by kernel_rfl) rfl rfl (.inl rfl) (by kernel_rfl) ?_
 apply Stam.tq 2 _ hf hok
 · (
 intro fr1 w1 hh hd hk K Z
 refine Stab.pl ?_
 have s5 := Stam.v 1 0 hd hk []
 have hxe := Stam.ext_at hh [(7, [4, 3]), (10, [])] (by kernel_rfl)
 have hbt := Stam.but_at hh [] [(7, [4, 3]), (10, [])] (by kernel_rfl)
 clear hd hh
 go_simp
 exact Stab.k Z)
 apply Stam.tq 3 _ hf hok
 · (
 intro fr1 w1 hh hd hk K Z
 refine Stab.pl ?_
 have s6 := Stam.v 2 0 hd hk []
 have hxe := Stam.ext_at hh [(7, [4]), (10, [])] (by kernel_rfl)
 have hbt := Stam.but_at hh [] [(7, [4]), (10, [])] (by kernel_rfl)
 clear hd hh
 go_simp
 exact Stab.k Z)
 apply Stam.tq 4 _ hf hok
 · (
 intro fr1 w1 hh hd hk K Z
 refine Stab.pl ?_
 have s7 := Stam.v 3 0 hd hk []
 have hxe := Stam.ext_at hh [(7, []), (10, [])] (by kernel_rfl)
 have hbt := Stam.but_at hh [] [(7, []), (10, [])] (by kernel_rfl)
 clear hd hh
 have z0 := cell_of_row _ _ 0 _ t (0, 0) ((hxe.block g hlt).trans hx)
 simp at z0
 go_simp
 exact Stab.k Z)
 refine Stam.mvO (k := 5) s1 hf.size hok.out rfl (by kernel_rfl) rfl rfl (.inl rfl) (by kernel_rfl) ?_
 apply Stam.tq 6 _ hf hok
 · (
 intro fr1 w1 hh hd hk K Z
 refine Stab.pl ?_
 have s9 := Stam.v 5 0 hd hk []
 have hxe := Stam.ext_at hh [(7, []), (10, [])] (by kernel_rfl)
 have hbt := Stam.but_at hh [] [(7, []), (10, [])] (by kernel_rfl)
 clear hd hh
 go_simp
 go_at_call 48; refine (put48 w1 ns v ((hrn.below hxe).more hxe.size) hlen HSM.out).mono ?_; rintro e w2 ⟨rfl, hb⟩
 rw [HL2.out]
 exact Z.out _ rfl _ _ hb rfl)
 refine Stam.todo_sp (k := 7) (n := 14) (PRowN w base g bv rest t (l ++ L2)) hf.size hok.out rfl (PRowN.stable _ _ _ _ _ _ _) (by kernel_rfl) ?_ ?_
 · (
 intro fr1 w1 hh hd hk K Z
 refine Stab.pl ?_
 have s8 := Stam.v 4 2 hd hk []
 have s10 := Stam.v 6 0 hd hk []
 have hxe := Stam.ext_at hh [(10, [])] (by kernel_rfl)
 have hbt := Stam.but_at hh [] [(10, [])] (by kernel_rfl)
 clear hd hh
 have how2 := own_later how hxe
 have hx2 := (hxe.block g hlt).trans hx
 refine wp_appstr _ _ rfl base bv l (Fact.eval_tmp s8) how2 (bl L2) (Fact.eval_tmp s10) (by rw [bl_size]; omega) (by have := hxe.size; omega) (fun v2 w2 hr3 hg3 hat3 => ?_)
 rw [wl_bl hL2s] at hr3
 exact Z.out _ rfl _ _ (But.grown hg3 (fun k hk => .inr hk)) ⟨hr3, hat3.imp id (fun h => ⟨_, h, hxe.size⟩), (hg3.block g (heap_lt hx2) (fun e => hne e.symm)).trans hx2⟩)
 apply Stam.tq 8 _ hf hok
 · (
 intro fr1 w1 hh hd hk K Z
 refine Stab.pl ?_
 have s4 := Stam.v 0 7 hd hk []
 have hbt := Stam.but_at hh [7] [(10, [9])] (by kernel_rfl)
 clear hd hh
 go_simp
 exact Stab.k Z)
 apply Stam.tq 9 _ hf hok
 · (
 intro fr1 w1 hh hd hk K Z
 refine Stab.pl ?_
 have s12 := Stam.v 8 0 hd hk []
 have hbt := Stam.but_at hh [7] [(10, [])] (by kernel_rfl)
 clear hd hh
 go_simp
 exact Stab.k Z)
 refine Stam.todo_sp (k := 10) (n := 14) (PEndN w base g bv rest t (l ++ L2)) hf.size hok.out rfl (PEndN.stable _ _ _ _ _ _ _) (by kernel_rfl) ?_ ?_
 · (
 intro fr1 w1 hh hd hk K Z
 refine Stab.pl ?_
 have s13 := Stam.v 9 0 hd hk []
 obtain ⟨x11, s11, hp11⟩ := Stam.use (j := 7) (m := 2) hd hk rfl [] (by kernel_rfl) [] (by kernel_rfl) rfl rfl rfl
 obtain ⟨hr11, hl11, hx11⟩ := hp11
 have hbt := Stam.but_at hh [7] [] (by kernel_rfl)
 clear hd hh
 have z0 := cell_of_row _ _ 0 _ t (0, 0) hx11
 simp at z0
 have fz := frozen_of (i := 0) hx11
 obtain ⟨A2, c2, hv2, _⟩ := row_form hr11
 subst hv2
 go_simp
 refine Z.out _ rfl undef _ (But.setCell (.inl rfl) _) ⟨_, own_but hr11 (But.setCell (S := fun k => k = g) rfl _) (fun kk hkk e => by subst e; exact PRowN.ne ⟨hr11, hl11, hx11⟩ hne hlt hkk), hl11, (set_block (i := 0) hx11 _).trans (by simp)⟩)
 refine Stam.todo_facts (n := 14) (by kernel_rfl) hf.size hok.out rfl (fun fr1 w1 hh hg => ?_)
 obtain ⟨_, hlast⟩ := Stam.end_fact (j := 10) (m := 0) hg rfl (by decide) [(7, [])] (by kernel_rfl) rfl
 have hf1 := hh.fr hf
 have hbt := hh.but
 clear hg hh hf hok s0 s1
 have hf := hf1; clear hf1
 obtain ⟨v6, hr6, hl6, hx6⟩ := hlast
 replace hbt := hbt (fun k => k = g ∨ bv.ownBlock = some k) (fun m _ b h => h)
 exact Fact.end0 rfl hf ⟨rfl, v6, ⟨hx6, by rw [HL2.out]; exact hr6, PEndN.ne hl6 hne hlt⟩, hbt, hl6⟩
end Dw
end Go.Proofs.YtdkbgbdgmihlmaaDoor
