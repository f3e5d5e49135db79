/- Get's deferred closure. -/
import Derived.Test.YtdkbgbdgmihlmaaGreatDoorPAll
import Derived.Recover
import Derived.Tactics
import Derived.Tactics2
import Derived.RegionTactic
namespace Go.Proofs.YtdkbgbdgmihlmaaGreatDoor
open Go.RowKit
set_option linter.unusedSimpArgs false
set_option linter.unusedVariables false
set_option linter.unnecessarySimpa false
namespace Dw
set_option maxHeartbeats 4000000 in
set_option maxRecDepth 100000 in
theorem catch31 (a b c q : Nat) (x : Int) (sv : Value) (y : Nat) (ev : Value) (w : World) (hab : a ≠ b) (hac : a ≠ c) (hbc : b ≠ c) (h0 : w.heap[a]? = some (.cells #[.int .i64 x] 3 (0, 0))) (h1 : w.heap[b]? = some (.cells #[sv, .int .u64 y] 33 (0, 0))) (h2 : w.heap[c]? = some (.cells #[ev] 40 (0, 0))) :
    CallsD Tryz.prog 29 #[.pointer (some ⟨a, 0, none⟩), .pointer (some ⟨b, 0, none⟩), .pointer (some ⟨c, 0, none⟩)] (.panicking [{ v := .iface 89 (.pointer (some ⟨q, 0, none⟩)), recovered := false }]) w fun e u' w' =>
      e = .returned (.tuple #[]) ∧ u' = .panicking [{ v := .iface 89 (.pointer (some ⟨q, 0, none⟩)), recovered := true }] ∧ w' = (((w.setCell ⟨a, 0, none⟩ (.int .i64 0)).setCell ⟨b, 0, none⟩ (.slice none 0 0)).setCell ⟨b, 1, none⟩ (.int .u64 0)).setCell ⟨c, 0, none⟩ (.iface 89 (.pointer (some ⟨q, 0, none⟩))) := by
  refine callsD_of_wpS Tryz.func29 rfl fun c₀ cs hu => ?_
  apply wpS_seq
  apply wpS_region
  simp [wpOpsS, go_sem, recoverD, hu, Tryz.ntmps29, Exit.thenS]
  refine wpS_of_wp ?_
  have a0 : w.cell? ⟨a, 0, none⟩ = some (.int .i64 x) := by rw [cell_of_row _ _ 0 _ _ (0, 0) h0]; rfl
  have b0 : w.cell? ⟨b, 0, none⟩ = some sv := by rw [cell_of_row _ _ 0 _ _ (0, 0) h1]; rfl
  have b1 : w.cell? ⟨b, 1, none⟩ = some (.int .u64 y) := by rw [cell_of_row _ _ 1 _ _ (0, 0) h1]; rfl
  have c0' : w.cell? ⟨c, 0, none⟩ = some ev := by rw [cell_of_row _ _ 0 _ _ (0, 0) h2]; rfl
  have fa := frozen_of (i := 0) h0
  have fb := frozen_of (i := 0) h1
  have fb1 := frozen_of (i := 1) h1
  have fc := frozen_of (i := 0) h2
  have hab' := hab.symm
  have hac' := hac.symm
  have hbc' := hbc.symm
  have hta : ∀ w' : World, (Instr.typeAssert (.iface 89 (.pointer (some ⟨q, 0, none⟩))) 20 89 true).run Tryz.prog w' = .ok (.tuple #[.pointer (some ⟨q, 0, none⟩), .bool true]) w' := fun w' => by kernel_rfl
  go_wp2
  exact ⟨rfl, _, rfl, _, results_none rfl _ _ _, rfl, rfl, rfl⟩
set_option maxHeartbeats 4000000 in
set_option maxRecDepth 100000 in
theorem idle31 (p0 p1 p2 : Value) (w : World) : CallsD Tryz.prog 29 #[p0, p1, p2] .returning w fun e u' w' => e = .returned (.tuple #[]) ∧ u' = .returning ∧ w' = w := by
  refine callsD_of_wpS Tryz.func29 rfl fun c₀ cs hu => ?_
  apply wpS_seq
  apply wpS_region
  simp [wpOpsS, go_sem, recoverD, hu, Tryz.ntmps29, Exit.thenS]
  refine wpS_of_wp ?_
  have hn : ∀ w' : World, (binOp .eql 20 .nilIface .nilIface).run Tryz.prog w' = .ok (.bool true) w' := fun w' => by kernel_rfl
  go_wp2
  cases c₀
  simp_all [bodyPostS, results, Tryz.results31]
end Dw
end Go.Proofs.YtdkbgbdgmihlmaaGreatDoor

namespace Go.Proofs.YtdkbgbdgmihlmaaGreatDoor
open Go.RowKit
set_option linter.unusedSimpArgs false
set_option linter.unusedVariables false
set_option linter.unnecessarySimpa false
namespace Dw
def pGet (s : ByteArray) : Except Bad (Nat × Nat × List State) := match openR (Crc.opened (wl s)) with
  | (body, is) => if is then pAll body else .error (16, 0)
def GetR (w w1 : World) (e : Ending) : Except Bad (Nat × Nat × List State) → Prop
  | .error b => ∃ q, e = .returned (.tuple #[.int .i64 0, .agg #[.slice none 0 0, .int .u64 0], .iface 89 (.pointer (some ⟨q, 0, none⟩))]) ∧ w.heap.size ≤ q ∧ w1.heap[q]? = some (.cells #[.int .i64 b.1, .int .i64 b.2] 64 (0, 0)) ∧ Below w.heap.size w w1
  | .ok (en, init, ss) => ∃ sv, e = .returned (.tuple #[.int .i64 en, .agg #[sv, .int .u64 init], .nilIface]) ∧ RS w1 sv ss ∧ Below w.heap.size w w1
abbrev W15 (w : World) : World := ((w.alloc (.cells #[.int .i64 0] 3)).alloc (.cells #[.slice none 0 0, .int .u64 0] 33)).alloc (.cells #[.nilIface] 40)
theorem boxes15 {w w2 : World} (hb : Below (W15 w).heap.size (W15 w) w2) : w2.heap[w.heap.size]? = some (.cells #[.int .i64 0] 3 (0, 0)) ∧ w2.heap[w.heap.size + 1]? = some (.cells #[.slice none 0 0, .int .u64 0] 33 (0, 0)) ∧ w2.heap[w.heap.size + 1 + 1]? = some (.cells #[.nilIface] 40 (0, 0)) ∧ Below w.heap.size w w2 ∧ w.heap.size + 3 ≤ w2.heap.size := by
  have hsz : (W15 w).heap.size = w.heap.size + 3 := by simp [W15]
  have h0 := hb.size
  refine ⟨?_, ?_, ?_, ?_, by omega⟩
  · rw [hb.block _ (by omega), heap_get, if_neg (by simp; omega), heap_get, if_neg (by simp), heap_get, if_pos rfl]
  · rw [hb.block _ (by omega), heap_get, if_neg (by simp), heap_get, if_pos (by simp)]
  · rw [hb.block _ (by omega), heap_get, if_pos (by simp)]
  · exact (((Below.refl _ w).alloc (Nat.le_refl _) _).alloc (by simp) _ |>.alloc (by simp; omega) _).trans (hb.mono (by omega))
set_option maxHeartbeats 4000000 in
set_option maxRecDepth 100000 in
theorem leave15 {tmps : Array Value} {a b c : Nat} {W : World} {x : Int} {sv ev : Value} {y : Nat} {R : Ending → World → Prop} (t2 : tmps[2]? = some (.pointer (some ⟨a, 0, none⟩))) (t3 : tmps[3]? = some (.pointer (some ⟨b, 0, none⟩))) (t4 : tmps[4]? = some (.pointer (some ⟨c, 0, none⟩)))
    (ha : W.heap[a]? = some (.cells #[.int .i64 x] 3 (0, 0))) (hb : W.heap[b]? = some (.cells #[sv, .int .u64 y] 33 (0, 0))) (hc : W.heap[c]? = some (.cells #[ev] 40 (0, 0))) (hR : R (.returned (.tuple #[.int .i64 x, .agg #[sv, .int .u64 y], ev])) W) : Leaves Tryz.prog Tryz.f8 tmps R [] .returning W := by
  have a0 : W.cell? ⟨a, 0, none⟩ = some (.int .i64 x) := by rw [cell_of_row _ _ 0 _ _ (0, 0) ha]; rfl
  have c0 : W.cell? ⟨c, 0, none⟩ = some ev := by rw [cell_of_row _ _ 0 _ _ (0, 0) hc]; rfl
  have b0 : W.cell? ⟨b, 0, none⟩ = some sv := by rw [cell_of_row _ _ 0 _ _ (0, 0) hb]; rfl
  have b1 : W.cell? ⟨b, 1, none⟩ = some (.int .u64 y) := by rw [cell_of_row _ _ 1 _ _ (0, 0) hb]; rfl
  simp [Leaves, results, Tryz.results15, Sem.run_bind, Result.andThen, asAddr, t2, t3, t4, a0, b0, b1, c0, go_sem]
  exact hR
theorem set_other {W : World} {k blk i : Nat} {v : Value} {o : Obj} (h : W.heap[k]? = some o) (hne : k ≠ blk) : (W.setCell ⟨blk, i, none⟩ v).heap[k]? = some o := (But.setCell (S := fun k => k = blk) rfl v).heap h (fun e => hne e)
theorem caught15 {w w2 : World} {q : Nat} {bz : Bad} {tmps : Array Value} (t2 : tmps[2]? = some (.pointer (some ⟨w.heap.size, 0, none⟩))) (t3 : tmps[3]? = some (.pointer (some ⟨w.heap.size + 1, 0, none⟩))) (t4 : tmps[4]? = some (.pointer (some ⟨w.heap.size + 1 + 1, 0, none⟩))) {x : Int} {sv ev : Value} {y : Nat}
    (k0 : w2.heap[w.heap.size]? = some (.cells #[.int .i64 x] 3 (0, 0))) (k1 : w2.heap[w.heap.size + 1]? = some (.cells #[sv, .int .u64 y] 33 (0, 0))) (k2 : w2.heap[w.heap.size + 1 + 1]? = some (.cells #[ev] 40 (0, 0))) (k3 : Below w.heap.size w w2) (hq : w.heap.size + 3 ≤ q) (h3 : w2.heap[q]? = some (.cells #[.int .i64 bz.1, .int .i64 bz.2] 64 (0, 0))) :
    Leaves Tryz.prog Tryz.f8 tmps (fun e w1 => GetR w w1 e (.error bz)) [] .returning ((((w2.setCell ⟨w.heap.size, 0, none⟩ (.int .i64 0)).setCell ⟨w.heap.size + 1, 0, none⟩ (.slice none 0 0)).setCell ⟨w.heap.size + 1, 1, none⟩ (.int .u64 0)).setCell ⟨w.heap.size + 1 + 1, 0, none⟩ (.iface 89 (.pointer (some ⟨q, 0, none⟩)))) := by
  refine leave15 (x := 0) (sv := .slice none 0 0) (y := 0) (ev := .iface 89 (.pointer (some ⟨q, 0, none⟩))) t2 t3 t4 ?_ ?_ ?_ ⟨q, rfl, by omega, ?_, ?_⟩
  · exact set_other (set_other (set_other ((set_block k0 _).trans (by simp)) (by omega)) (by omega)) (by omega)
  · exact set_other ((set_block (set_block (set_other k1 (by omega)) _) _).trans (by simp)) (by omega)
  · exact (set_block (set_other (set_other (set_other k2 (by omega)) (by omega)) (by omega)) _).trans (by simp)
  · exact set_other (set_other (set_other (set_other h3 (by omega)) (by omega)) (by omega)) (by omega)
  · exact (((k3.setCell (p := ⟨w.heap.size, 0, none⟩) (Nat.le_refl _) _).setCell (p := ⟨w.heap.size + 1, 0, none⟩) (by simp) _).setCell (p := ⟨w.heap.size + 1, 1, none⟩) (by simp) _).setCell (p := ⟨w.heap.size + 1 + 1, 0, none⟩) (by simp; omega) _
def st15 (w2 : World) (a : Nat) (en init : Nat) (sv : Value) : World := (((((((w2.setCell ⟨a, 0, none⟩ (.int .i64 en)).setCell ⟨a + 1, 0, none⟩ sv).setCell ⟨a + 1, 1, none⟩ (.int .u64 init)).setCell ⟨a, 0, none⟩ (.int .i64 en)).setCell ⟨a + 1, 0, none⟩ sv).setCell ⟨a + 1, 1, none⟩ (.int .u64 init)).setCell ⟨a + 1 + 1, 0, none⟩ .nilIface).drew
theorem drew_heap (W : World) : W.drew.heap = W.heap := rfl
theorem good15 {w w2 : World} {N : Nat} {tmps : Array Value} (t2 : tmps[2]? = some (.pointer (some ⟨w.heap.size, 0, none⟩))) (t3 : tmps[3]? = some (.pointer (some ⟨w.heap.size + 1, 0, none⟩))) (t4 : tmps[4]? = some (.pointer (some ⟨w.heap.size + 1 + 1, 0, none⟩))) {x : Int} {sv v0 ev : Value} {y en init : Nat} {ss : List State}
    (k0 : w2.heap[w.heap.size]? = some (.cells #[.int .i64 x] 3 (0, 0))) (k1 : w2.heap[w.heap.size + 1]? = some (.cells #[v0, .int .u64 y] 33 (0, 0))) (k2 : w2.heap[w.heap.size + 1 + 1]? = some (.cells #[ev] 40 (0, 0))) (k3 : Below w.heap.size w w2) (hrs : ∀ w', But (fun k => k < N) w2 w' → RS w' sv ss) (hN : w.heap.size + 2 < N) :
    Leaves Tryz.prog Tryz.f8 tmps (fun e w1 => GetR w w1 e (.ok (en, init, ss))) [] .returning (st15 w2 w.heap.size en init sv) := by
  have m0 : (st15 w2 w.heap.size en init sv).heap[w.heap.size]? = some (.cells #[.int .i64 en] 3 (0, 0)) := by
    rw [st15, drew_heap]
    refine set_other (set_other (set_other ((set_block (set_other (set_other (set_block k0 _) (by omega)) (by omega)) _).trans (by simp)) (by omega)) (by omega)) (by omega)
  have m1 : (st15 w2 w.heap.size en init sv).heap[w.heap.size + 1]? = some (.cells #[sv, .int .u64 init] 33 (0, 0)) := by
    rw [st15, drew_heap]
    refine set_other ((set_block (set_block (set_other (set_block (set_block (set_other k1 (by omega)) _) _) (by omega)) _) _).trans (by simp)) (by omega)
  have m2 : (st15 w2 w.heap.size en init sv).heap[w.heap.size + 1 + 1]? = some (.cells #[.nilIface] 40 (0, 0)) := by
    rw [st15, drew_heap]
    refine (set_block (set_other (set_other (set_other (set_other (set_other (set_other k2 (by omega)) (by omega)) (by omega)) (by omega)) (by omega)) (by omega)) _).trans (by simp)
  have hbt : But (fun k => w.heap.size ≤ k ∧ k < N) w2 (st15 w2 w.heap.size en init sv) := by
    have c : ∀ (W : World) (p : Addr) (v : Value), w.heap.size ≤ p.block → p.block < N → But (fun k => w.heap.size ≤ k ∧ k < N) W (W.setCell p v) := fun W p v h1 h2 => But.setCell (S := fun k => w.heap.size ≤ k ∧ k < N) ⟨h1, h2⟩ v
    have hd : ∀ W : World, But (fun k => w.heap.size ≤ k ∧ k < N) W W.drew := fun W => ⟨rfl, rfl, rfl, Nat.le_refl _, fun _ _ _ => rfl⟩
    refine (((((((c _ _ _ ?_ ?_).trans (c _ _ _ ?_ ?_)).trans (c _ _ _ ?_ ?_)).trans (c _ _ _ ?_ ?_)).trans (c _ _ _ ?_ ?_)).trans (c _ _ _ ?_ ?_)).trans (c _ _ _ ?_ ?_)).trans (hd _) <;> simp <;> omega
  exact leave15 t2 t3 t4 m0 m1 m2 ⟨_, rfl, hrs _ (hbt.mono (fun k _ h => h.2)), k3.trans (hbt.below k3.size (fun k h => h.1))⟩
set_option maxHeartbeats 4000000 in
set_option maxRecDepth 100000 in
theorem get15 (w : World) (s : ByteArray) (hsz : s.size ≤ 900000000) : Calls Tryz.prog 8 #[.string s] w fun e w1 => GetR w w1 e (pGet s) := by
  have hmf : ∀ (fn : Fn) (first cap : Array Value) (w : World), (Instr.makeFunc fn first cap).run Tryz.prog w = .ok (.func fn first cap) w := fun _ _ _ _ => rfl
  obtain ⟨body, is, ho⟩ : ∃ b i, openR (Crc.opened (wl s)) = (b, i) := ⟨_, _, rfl⟩
  rcases is with _ | _
  · have hp : pGet s = .error (16, 0) := by unfold pGet; rw [ho]; rfl
    rw [hp]
    go_enter_defers Tryz.func8, Tryz.ntmps8
    go_wp2_with (go_at_call 30; refine (open32 _ s hsz).mono ?_; rw [ho]; rintro e w1 ⟨rfl, hb1⟩)
    refine (bad33 _ 16 0).mono ?_
    rintro e w2 ⟨q, rfl, h2, h3, h4⟩
    dsimp only
    refine leaves_cons (f := 29) (args := #[.pointer (some ⟨w.heap.size, 0, none⟩), .pointer (some ⟨w.heap.size + 1, 0, none⟩), .pointer (some ⟨w.heap.size + 1 + 1, 0, none⟩)]) (by simp) (by simp [go_sem]) ?_
    obtain ⟨k0, k1, k2, k3, k4⟩ := boxes15 (hb1.trans (h4.mono hb1.size))
    refine (catch31 _ _ _ q 0 (.slice none 0 0) 0 .nilIface w2 (by omega) (by omega) (by omega) k0 k1 k2).mono ?_
    rintro e u' w3 ⟨rfl, rfl, rfl⟩
    have k5 := (boxes15 hb1).2.2.2.2
    exact caught15 (rfl) (rfl) (rfl) k0 k1 k2 k3 (by omega) h3
  · have hp : pGet s = pAll body := by unfold pGet; rw [ho]; rfl
    rw [hp]
    have hbs : body.size ≤ 1000000000 := by
      have h9 := congrArg (fun x => x.1.size) ho
      simp only at h9
      rw [← h9]
      cases hop : Crc.opened (wl s) with
      | none => exact Nat.zero_le _
      | some l =>
        have h8 := congrArg List.length (Crc.opened_some hop)
        rw [Crc.seal_length, wl_length] at h8
        simp only [openR, bl_size]
        omega
    cases hall : pAll body with
    | error bz =>
      go_enter_defers Tryz.func8, Tryz.ntmps8
      go_wp2_with (go_at_call 30; refine (open32 _ s hsz).mono ?_; rw [ho]; rintro e w1 ⟨rfl, hb1⟩)
      refine (all34 _ w1.heap.size body (heap_alloc_new w1 _) hbs).mono ?_
      rintro e w2 hres
      rw [hall] at hres
      obtain ⟨q, rfl, h2, h3, h4⟩ := hres
      dsimp only
      refine leaves_cons (f := 29) (args := #[.pointer (some ⟨w.heap.size, 0, none⟩), .pointer (some ⟨w.heap.size + 1, 0, none⟩), .pointer (some ⟨w.heap.size + 1 + 1, 0, none⟩)]) (by simp) (by simp [go_sem]) ?_
      have k5 := (boxes15 hb1).2.2.2.2
      have hb2 : Below w1.heap.size w1 w2 := ((Below.refl _ w1).alloc (Nat.le_refl _) _).trans (h4.below (by simp) (fun k hk => by omega))
      obtain ⟨k0, k1, k2, k3, k4⟩ := boxes15 (hb1.trans (hb2.mono hb1.size))
      refine (catch31 _ _ _ q 0 (.slice none 0 0) 0 .nilIface w2 (by omega) (by omega) (by omega) k0 k1 k2).mono ?_
      rintro e u' w3 ⟨rfl, rfl, rfl⟩
      exact caught15 rfl rfl rfl k0 k1 k2 k3 (by simp at h2; omega) h3
    | ok x =>
      obtain ⟨en, init, ss⟩ := x
      go_enter_defers Tryz.func8, Tryz.ntmps8
      go_wp2_with (go_at_call 30; refine (open32 _ s hsz).mono ?_; rw [ho]; rintro e w1 ⟨rfl, hb1⟩)
      refine (all34 _ w1.heap.size body (heap_alloc_new w1 _) hbs).mono ?_
      rintro e w2 hres
      rw [hall] at hres
      obtain ⟨sv, rfl, hrs, h4⟩ := hres
      obtain ⟨A, cc, hsv, _⟩ := (hrs _ (But.refl _ _)).form
      subst hsv
      dsimp only
      have hb2 : Below w1.heap.size w1 w2 := ((Below.refl _ w1).alloc (Nat.le_refl _) _).trans (h4.below (by simp) (fun k hk => by omega))
      obtain ⟨k0, k1, k2, k3, k4⟩ := boxes15 (hb1.trans (hb2.mono hb1.size))
      have a0 : w2.cell? ⟨w.heap.size, 0, none⟩ = some (.int .i64 0) := by rw [cell_of_row _ _ 0 _ _ (0, 0) k0]; rfl
      have b0 : w2.cell? ⟨w.heap.size + 1, 0, none⟩ = some (.slice none 0 0) := by rw [cell_of_row _ _ 0 _ _ (0, 0) k1]; rfl
      have b1 : w2.cell? ⟨w.heap.size + 1, 1, none⟩ = some (.int .u64 0) := by rw [cell_of_row _ _ 1 _ _ (0, 0) k1]; rfl
      have c0 : w2.cell? ⟨w.heap.size + 1 + 1, 0, none⟩ = some .nilIface := by rw [cell_of_row _ _ 0 _ _ (0, 0) k2]; rfl
      have fa := frozen_of (i := 0) k0
      have fb := frozen_of (i := 0) k1
      have fb1 := frozen_of (i := 1) k1
      have fc := frozen_of (i := 0) k2
      go_wp2
      go_region
      go_wp2
      refine leaves_cons (f := 29) (args := #[.pointer (some ⟨w.heap.size, 0, none⟩), .pointer (some ⟨w.heap.size + 1, 0, none⟩), .pointer (some ⟨w.heap.size + 1 + 1, 0, none⟩)]) (by simp) (by simp [go_sem]) ?_
      refine (idle31 _ _ _ _).mono ?_
      rintro e u' w3 ⟨rfl, rfl, rfl⟩
      have k5 := (boxes15 hb1).2.2.2.2
      exact good15 rfl rfl rfl k0 k1 k2 k3 hrs (by simp; omega)
end Dw
end Go.Proofs.YtdkbgbdgmihlmaaGreatDoor
