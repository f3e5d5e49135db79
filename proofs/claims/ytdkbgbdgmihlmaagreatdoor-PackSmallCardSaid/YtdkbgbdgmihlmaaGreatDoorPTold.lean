/- pack: told. -/
import Derived.Test.YtdkbgbdgmihlmaaGreatDoorQI
import Derived.Test.YtdkbgbdgmihlmaaGreatDoorPAppS
import Derived.Test.YtdkbgbdgmihlmaaGreatDoorTools
namespace Go.Proofs.YtdkbgbdgmihlmaaGreatDoor
open Go.RowKit
set_option linter.unusedSimpArgs false
set_option linter.unusedVariables false
set_option linter.unnecessarySimpa false
namespace Dw

/-- the package variable by which errors.As tells error types -/
def ETy (w : World) : Prop := w.cell? ⟨0, 0, none⟩ = some (.iface 167 (.agg #[.pointer (some ⟨4, 40, none⟩)]))
def PAsV (q g b : Nat) (a p c d : Int) : Stab.Pr := fun v wz => v = .bool true ∧ wz.cell? ⟨g, 0, none⟩ = some (.pointer (some ⟨q, 0, none⟩)) ∧ wz.cell? ⟨q, 0, none⟩ = some (.int .i64 a) ∧ wz.cell? ⟨q, 1, none⟩ = some (.int .i64 p) ∧ wz.cell? ⟨b, 0, none⟩ = some (.int .i64 c) ∧ wz.cell? ⟨b, 1, none⟩ = some (.int .i64 d)
theorem PAsV.stable (q g b : Nat) (a p c d : Int) : Stab.Stable (PAsV q g b a p c d) := fun v w w' hb ⟨h0, h1, h2, h3, h4, h5⟩ => ⟨h0, cL hb h1, cL hb h2, cL hb h3, cL hb h4, cL hb h5⟩
theorem flt_eq {a p c d : Int} {w1 : World} : (if a = c then if p = d then (Result.ok (Next.value (Value.bool true)) w1 : Result Next) else .ok (.value (.bool false)) w1 else .ok (.value (.bool false)) w1) = .ok (.value (.bool (if a = c then decide (p = d) else false))) w1 := by
  by_cases h : a = c <;> by_cases h2 : p = d <;> simp [h, h2]
theorem as_world {w1 : World} {o1 o2 o3 o4 : Obj} {g : Nat} {v0 v : Value} {t : TypeId} (hx : w1.heap[g]? = some (.cells #[v0] t (0, 0))) : But (fun k => k = g) w1 (((((w1.alloc o1).alloc o2).alloc o3).alloc o4).setCell ⟨g, 0, none⟩ v) ∧ (((((w1.alloc o1).alloc o2).alloc o3).alloc o4).setCell ⟨g, 0, none⟩ v).cell? ⟨g, 0, none⟩ = some v := by
  have hb : Below w1.heap.size w1 ((((w1.alloc o1).alloc o2).alloc o3).alloc o4) := ((((Below.refl _ w1).alloc (Nat.le_refl _) _).alloc (by simp) _).alloc (by simp; omega) _).alloc (by simp; omega) _
  have h4 := (hb.block _ (heap_lt hx)).trans hx
  refine ⟨(But.of _ hb).trans (But.setCell (S := fun k => k = g) rfl v), ?_⟩
  rw [cell_of_row _ _ 0 _ _ (0, 0) (set_block (i := 0) h4 v)]
  simp
set_option maxHeartbeats 4000000 in
set_option maxRecDepth 100000 in
theorem told_yes (w : World) (q : Nat) (a p c d : Int) (hq : w.heap[q]? = some (.cells #[.int .i64 a, .int .i64 p] 64 (0, 0))) (hE : ETy w) (hc : c ≠ 0) (hac : (a = c ∧ p = d)) : Calls Tryz.prog 17 #[.iface 89 (.pointer (some ⟨q, 0, none⟩)), .agg #[.int .i64 c, .int .i64 d]] w fun e w1 => e = .returned (.bool (a == c)) ∧ Below w.heap.size w w1 := by
 refine calls_of_wp Tryz.func17 rfl ?_
 refine Fact.en 28 fun fr hf hT => ?_
 have s0 := hT 0 _ rfl
 have s1 := hT 1 _ rfl
 clear hT
 have q0 : (c == 0) = false := beq_eq_false_iff_ne.2 hc
 clear hc
 have hnn : ∀ (v : Value) (w' : World), (binOp .eql 40 (.iface 89 v) .nilIface).run Tryz.prog w' = .ok (.bool false) w' := fun v w' => by kernel_rfl
 refine Fact.sq fun K1 hK1 => ?_
 refine rg ?_
 iterate 2 (refine fp fun K Z => ?_; go_simp; apply Z.out; clear Z K)
 refine Fact.z hf fun fr1 hf1 hT => ?_
 have hKp : _ ∧ _ := ⟨hT 0, hT 3⟩
 simp (decide := true) only [Fact.G, hf.size, reduceIte, s0] at hKp
 replace hf := hf1; clear hT hf1 s0 s1
 obtain ⟨s0, s3⟩ := hKp
 obtain ⟨W0, hW0⟩ : ∃ W0, w.alloc (.cells #[.int .i64 c, .int .i64 d] 64) = W0 := ⟨_, rfl⟩
 try rw [hW0]
 obtain ⟨hb0, c0, c1, -, hz0_⟩ := box2 hW0
 clear hW0
 have hz0 : w.heap.size < W0.heap.size := by rw [hz0_]; exact Nat.lt_succ_self _
 clear hz0_
 have e0 := cL hb0 (cell_of_row _ _ 0 _ 64 (0, 0) hq)
 have e1 := cL hb0 (cell_of_row _ _ 1 _ 64 (0, 0) hq)
 replace hE := cL hb0 hE
 have hqlt := heap_lt hq
 simp at e0 e1
 refine nx (hK1 _ _ ?_)
 refine Fact.sq fun K2 hK2 => ?_
 refine Fact.sq fun K3 hK3 => ?_
 refine rg ?_
 have b6 := hf.b 6
 have b7 := hf.b 7
 iterate 2 (refine fp fun K Z => ?_; go_simp; apply Z.out; clear Z K)
 refine fp fun K Z => ?_
 go_simp
 try rw [q0]
 apply Z.out; clear Z K
 refine Fact.z hf fun fr1 hf1 hT => ?_
 have hKp : _ ∧ _ ∧ _ := ⟨hT 0, hT 3, hT 8⟩
 simp (decide := true) only [Fact.G, hf.size, reduceIte, s0, s3] at hKp
 replace hf := hf1; clear hT hf1 s0 s3 b6 b7
 obtain ⟨s0, s3, s8⟩ := hKp
 refine nx (hK3 _ _ ?_)
 refine Fact.cond_f s8 ?_
 refine wp_skip ?_
 refine nx (hK2 _ _ ?_)
 refine Fact.sq fun K4 hK4 => ?_
 refine rg ?_
 refine fp fun K Z => ?_
 go_simp
 apply Z.out; clear Z K
 refine Fact.z hf fun fr1 hf1 hT => ?_
 have hKp : _ ∧ _ ∧ _ := ⟨hT 0, hT 3, hT 5⟩
 simp (decide := true) only [Fact.G, hf.size, reduceIte, s0, s3] at hKp
 replace hf := hf1; clear hT hf1 s0 s3 s8
 obtain ⟨s0, s3, s5⟩ := hKp
 obtain ⟨g, hg⟩ : ∃ x, W0.heap.size = x := ⟨_, rfl⟩
 obtain ⟨W3, hW3⟩ : ∃ x, W0.alloc (.cells #[.pointer none] 89) = x := ⟨_, rfl⟩
 try rw [hW3]
 try rw [hg] at s5
 have hb3 : Below W0.heap.size W0 W3 := by rw [← hW3]; exact (Below.refl _ _).alloc (Nat.le_refl _) _
 have hx3 : W3.heap[g]? = some (.cells #[.pointer none] 89 (0, 0)) := by rw [← hW3, ← hg]; exact heap_alloc_new W0 _
 have hgq : q ≠ g := by have := hb0.size; omega
 have hgw : w.heap.size ≠ g := by omega
 have hgz : w.heap.size < g := by omega
 have z0 := cL hb3 e0; have z1 := cL hb3 e1; have y0 := cL hb3 c0; have y1 := cL hb3 c1; have zE := cL hb3 hE
 have hg0 : 0 ≠ g := by omega
 clear hW3 e0 e1 c0 c1 hE
 refine nx (hK4 _ _ ?_)
 have q1 : (if a = c then decide (p = d) else false) = true := by rw [if_pos hac.1, decide_eq_true hac.2]
 clear hac
 refine Fact.sq fun K5 hK5 => ?_
 refine Stam.todo_begin (n := 28) (fun _ k => k = g) [2] (Stab.OkOps.of (by kernel_rfl)) (fun hok => ?_)
 refine Stam.mvO (k := 0) s0 hf.size hok.out rfl (by kernel_rfl) rfl rfl (.inl rfl) (by kernel_rfl) ?_
 apply Stam.tq 1 _ hf hok
 · (
 intro fr1 w1 hh hd hk K Z
 refine Stab.pl ?_
 have s5 := Stam.o hh (by kernel_rfl) s5
 have hxe := Stam.ext_at hh [(2, [])] (by kernel_rfl)
 have hbt := Stam.but_at hh [] [(2, [])] (by kernel_rfl)
 clear hd hh
 go_simp
 exact Stab.k Z)
 refine Stam.todo_sp (k := 2) (n := 28) (PAsV q g w.heap.size a p c d) hf.size hok.out rfl (PAsV.stable _ _ _ _ _ _ _) (by kernel_rfl) ?_ ?_
 · (
 intro fr1 w1 hh hd hk K Z
 refine Stab.pl ?_
 have s11 := Stam.v 0 1 hd hk []
 have s12 := Stam.v 1 0 hd hk []
 have hxe := Stam.ext_at hh [] (by kernel_rfl)
 have hbt := Stam.but_at hh [] [] (by kernel_rfl)
 clear hd hh
 go_simp
 go_at_call 38; refine (as_hit ⟨q, 0, none⟩ ⟨g, 0, none⟩ (.pointer none) w1 (cL hxe zE) (by rw [cell_of_row _ _ 0 _ 89 (0, 0) ((hxe.block _ (heap_lt hx3)).trans hx3)]; rfl) (frozen_of (i := 0) ((hxe.block _ (heap_lt hx3)).trans hx3))).mono ?_
 rintro e w2 ⟨rfl, rfl⟩
 obtain ⟨kb, kc⟩ := as_world (v := .pointer (some ⟨q, 0, none⟩)) ((hxe.block _ (heap_lt hx3)).trans hx3)
 exact Z.out _ rfl _ _ kb ⟨rfl, kc, kb.cell (cL hxe z0) hgq, kb.cell (cL hxe z1) hgq, kb.cell (cL hxe y0) hgw, kb.cell (cL hxe y1) hgw⟩)
 apply Stam.tq 3 _ hf hok
 · (
 intro fr1 w1 hh hd hk K Z
 refine Stab.pl ?_
 obtain ⟨x13, s13, hp13⟩ := Stam.use (j := 2) (m := 0) hd hk rfl [] (by kernel_rfl) [] (by kernel_rfl) rfl rfl rfl
 have hv13 := hp13.1
 subst hv13
 have hbt := Stam.but_at hh [2] [] (by kernel_rfl)
 clear hd hh
 go_simp
 exact Stab.k Z)
 apply Stam.tq 4 _ hf hok
 · (
 intro fr1 w1 hh hd hk K Z
 have s14 := Stam.v 3 0 hd hk []
 refine Stab.g s14 ?_
 have s5 := Stam.o hh (by kernel_rfl) s5
 obtain ⟨_, hd2⟩ := Stam.use_fact (j := 2) (m := 1) hd hk rfl [3] (by kernel_rfl) [] (by kernel_rfl) rfl
 have hbt := Stam.but_at hh [2] [] (by kernel_rfl)
 clear hd hh
 obtain ⟨_, k0, k1, k2, k3, k4⟩ := hd2
 go_simp
 exact Stab.k Z)
 apply Stam.tq 5 _ hf hok
 · (
 intro fr1 w1 hh hd hk K Z
 have s14 := Stam.v 3 1 hd hk []
 refine Stab.g s14 ?_
 have s15 := Stam.v 4 0 hd hk []
 have hbt := Stam.but_at hh [2] [] (by kernel_rfl)
 clear hd hh
 go_simp
 exact Stab.k Z)
 apply Stam.tq 6 _ hf hok
 · (
 intro fr1 w1 hh hd hk K Z
 have s14 := Stam.v 3 2 hd hk []
 refine Stab.g s14 ?_
 have s16 := Stam.v 5 0 hd hk []
 obtain ⟨_, hd2⟩ := Stam.use_fact (j := 2) (m := 3) hd hk rfl [3] (by kernel_rfl) [] (by kernel_rfl) rfl
 have hbt := Stam.but_at hh [2] [] (by kernel_rfl)
 clear hd hh
 obtain ⟨_, k0, k1, k2, k3, k4⟩ := hd2
 go_simp
 exact Stab.k Z)
 apply Stam.tq 7 _ hf hok
 · (
 intro fr1 w1 hh hd hk K Z
 have s14 := Stam.v 3 3 hd hk []
 refine Stab.g s14 ?_
 have s3 := Stam.o hh (by kernel_rfl) s3
 obtain ⟨_, hd2⟩ := Stam.use_fact (j := 2) (m := 4) hd hk rfl [3] (by kernel_rfl) [] (by kernel_rfl) rfl
 have hbt := Stam.but_at hh [2] [] (by kernel_rfl)
 clear hd hh
 obtain ⟨_, k0, k1, k2, k3, k4⟩ := hd2
 go_simp
 exact Stab.k Z)
 apply Stam.tq 8 _ hf hok
 · (
 intro fr1 w1 hh hd hk K Z
 have s14 := Stam.v 3 4 hd hk []
 refine Stab.g s14 ?_
 have s17 := Stam.v 6 1 hd hk []
 have s18 := Stam.v 7 0 hd hk []
 have hbt := Stam.but_at hh [2] [] (by kernel_rfl)
 clear hd hh
 go_simp
 rw [flt_eq, q1]
 rw [Oper.upon_value]
 exact Stab.k Z)
 apply Stam.tq 9 _ hf hok
 · (
 intro fr1 w1 hh hd hk K Z
 refine Stab.pl ?_
 have s14 := Stam.v 3 5 hd hk []
 have s19 := Stam.v 8 0 hd hk []
 have hbt := Stam.but_at hh [2] [] (by kernel_rfl)
 clear hd hh
 go_simp
 exact Stab.k Z)
 refine Stam.mvN (k := 10) (j := 9) (m := 0) hf.size hok.out rfl (by kernel_rfl) rfl rfl (.inl rfl) rfl [] (by kernel_rfl) rfl rfl rfl ?_
 apply Stam.tq 11 _ hf hok
 · (
 intro fr1 w1 hh hd hk K Z
 have s21 := Stam.v 10 0 hd hk []
 refine Stab.g s21 ?_
 have s0 := Stam.o hh (by kernel_rfl) s0
 have hbt := Stam.but_at hh [2] [] (by kernel_rfl)
 clear hd hh
 go_simp
 exact Stab.k Z)
 apply Stam.tq 12 _ hf hok
 · (
 intro fr1 w1 hh hd hk K Z
 have s21 := Stam.v 10 1 hd hk []
 refine Stab.g s21 ?_
 have s3 := Stam.o hh (by kernel_rfl) s3
 have hbt := Stam.but_at hh [2] [] (by kernel_rfl)
 clear hd hh
 go_simp
 exact Stab.k Z)
 apply Stam.tq 13 _ hf hok
 · (
 intro fr1 w1 hh hd hk K Z
 have s21 := Stam.v 10 2 hd hk []
 refine Stab.g s21 ?_
 have s23 := Stam.v 12 0 hd hk []
 obtain ⟨_, hd2⟩ := Stam.use_fact (j := 2) (m := 10) hd hk rfl [10, 3] (by kernel_rfl) [] (by kernel_rfl) rfl
 have hbt := Stam.but_at hh [2] [] (by kernel_rfl)
 clear hd hh
 obtain ⟨_, k0, k1, k2, k3, k4⟩ := hd2
 go_simp
 exact Stab.k Z)
 apply Stam.tq 14 _ hf hok
 · (
 intro fr1 w1 hh hd hk K Z
 have s21 := Stam.v 10 3 hd hk []
 refine Stab.g s21 ?_
 have s24 := Stam.v 13 0 hd hk []
 have hbt := Stam.but_at hh [2] [] (by kernel_rfl)
 clear hd hh
 go_simp
 exact Stab.k Z)
 apply Stam.tq 15 _ hf hok
 · (
 intro fr1 w1 hh hd hk K Z
 have s21 := Stam.v 10 4 hd hk []
 refine Stab.g s21 ?_
 have s22 := Stam.v 11 3 hd hk []
 have s25 := Stam.v 14 0 hd hk []
 obtain ⟨_, hd2⟩ := Stam.use_fact (j := 2) (m := 12) hd hk rfl [10, 3] (by kernel_rfl) [] (by kernel_rfl) rfl
 have hbt := Stam.but_at hh [2] [] (by kernel_rfl)
 clear hd hh
 obtain ⟨_, k0, k1, k2, k3, k4⟩ := hd2
 go_simp
 go_at_call 39; refine (is_hit q a c w1 k1).mono ?_; rintro e w2 ⟨rfl, rfl⟩
 exact Stab.k Z)
 apply Stam.tq 16 _ hf hok
 · (
 intro fr1 w1 hh hd hk K Z
 refine Stab.pl ?_
 have s21 := Stam.v 10 5 hd hk []
 have s26 := Stam.v 15 0 hd hk []
 have hbt := Stam.but_at hh [2] [] (by kernel_rfl)
 clear hd hh
 go_simp
 exact Stab.k Z)
 refine Stam.mvN (k := 17) (j := 16) (m := 0) hf.size hok.out rfl (by kernel_rfl) rfl rfl (.inr rfl) rfl [] (by kernel_rfl) rfl rfl rfl ?_
 refine Stam.todo_facts (n := 28) (by kernel_rfl) hf.size hok.out rfl (fun fr1 w1 hh hg => ?_)
 have s4 := Stam.e 17 0 hg rfl rfl rfl rfl
 have hf1 := hh.fr hf
 have hbt := hh.but
 clear hg hh hf hok s0 s3 s5
 have hf := hf1; clear hf1
 refine nx (hK5 _ _ ?_)
 refine wp_ret ?_
 exact Fact.ret1 rfl hf s4 ⟨rfl, hb0.trans ((hb3.trans ((hbt (fun k => k = g) (fun _ _ b h => h)).below (B := W0.heap.size) hb3.size (fun k h => by have h : k = g := h; omega))).mono hb0.size)⟩
end Dw
end Go.Proofs.YtdkbgbdgmihlmaaGreatDoor
