/- pack: reading.state. -/
import Derived.Test.YtdkbgbdgmihlmaaGreatDoorQD
import Derived.Test.YtdkbgbdgmihlmaaGreatDoorTools
namespace Go.Proofs.YtdkbgbdgmihlmaaGreatDoor
open Go.RowKit
set_option linter.unusedSimpArgs false
set_option linter.unusedVariables false
set_option linter.unnecessarySimpa false
namespace Dw

theorem info_arc : (Tryz.prog.info? 60).map (fun i => (i.zero, i.size, i.bytes)) = some (some (.agg #[.int .u8 0, .int .u64 0, .int .i64 0]), 3, 24) := by kernel_rfl
theorem tmod_dec (n : Nat) : (((n : Nat) : Int).tmod 2 == 1) = decide (n % 2 = 1) := by
  have h : ((n : Nat) : Int).tmod 2 = ((n % 2 : Nat) : Int) := (Int.ofNat_tmod n 2).symm
  rw [h]
  rcases Nat.mod_two_eq_zero_or_one n with h | h <;> rw [h] <;> rfl
/-- what the reading of a state ends in -/
def StR (w w1 : World) (e : Ending) (g : Nat) (s : ByteArray) : Except Bad (State × Nat) → Prop
  | .error b => PanG w w1 e g b
  | .ok (st, j) => ∃ av, e = .returned (.agg #[av, .bool st.final, .int .u64 st.out]) ∧ RD w1 g s j ∧ OA w1 w.heap.size av st.arcs ∧ But (fun k => k = g) w w1
set_option maxHeartbeats 4000000 in
set_option maxRecDepth 100000 in
theorem state52 (w : World) (g : Nat) (s : ByteArray) (p : Nat) (hr : RD w g s p) (hi : p ≤ s.size) (hsz : s.size ≤ 1000000000) (i : Nat) (hi9 : i ≤ 1000000000) : Calls Tryz.prog 50 #[.pointer (some ⟨g, 0, none⟩), .int .u64 i] w fun e w1 => StR w w1 e g s (pState s i p) := by
 refine calls_of_wp Tryz.func50 rfl ?_
 refine Fact.en 43 fun fr hf hT => ?_
 have s0 := hT 0 _ rfl
 have s1 := hT 1 _ rfl
 clear hT
 obtain ⟨r, hps⟩ : ∃ r, pState s i p = r := ⟨_, rfl⟩
 rw [hps]
 have HPS := Lib.hid hps; clear hps
 have hgl := heap_lt hr
 rcases hpz : pNum s 0 513 p with bz | ⟨n, p1⟩
 · (
 have HPZ := Lib.hid hpz; clear hpz
 have he : r = .error bz := by rw [← HPS.out]; unfold pState; rw [HPZ.out]
 subst he
 refine Fact.sq fun K1 hK1 => ?_
 refine rg ?_
 refine fp fun K Z => ?_
 go_simp
 apply Z.out; clear Z K
 refine Fact.z hf fun fr1 hf1 hT => ?_
 have hKp : _ ∧ _ ∧ _ := ⟨hT 0, hT 1, hT 4⟩
 simp (decide := true) only [Fact.G, hf.size, reduceIte, s0, s1] at hKp
 replace hf := hf1; clear hT hf1 s0 s1
 obtain ⟨s0, s1, s4⟩ := hKp
 obtain ⟨W0, hW0⟩ : ∃ x, w.alloc (.cells #[.slice none 0 0, .bool false, .int .u64 0] 58) = x := ⟨_, rfl⟩
 try rw [hW0]
 have hbz0 : Below w.heap.size w W0 := by rw [← hW0]; exact (Below.refl _ _).alloc (Nat.le_refl _) _
 have hx0 : W0.heap[w.heap.size]? = some (.cells #[.slice none 0 0, .bool false, .int .u64 0] 58 (0, 0)) := by rw [← hW0]; exact heap_alloc_new w _
 clear hW0
 have hr0 := hr.later hbz0
 have hbt0 : But (fun k => k = g ∨ w.heap.size ≤ k) w W0 := But.of _ hbz0
 clear hr hbz0
 refine nx (hK1 _ _ ?_)
 refine Fact.sq fun K2 hK2 => ?_
 refine rg ?_
 have b7 := hf.b 7
 have b8 := hf.b 8
 refine fp fun K Z => ?_
 go_simp
 apply Z.out; clear Z K
 refine fp fun K Z => ?_
 go_simp
 go_at_call 49; refine (num51' W0 g s p hr0 hi hsz 0 513).mono ?_; rintro e wz hres
 rw [HPZ.out] at hres
 obtain ⟨q, rfl, hz2, hz3, hz4⟩ := hres
 try dsimp only
 try dsimp only
 exact pan9 hf.defers (PanG.via hbt0 ⟨q, rfl, hz2, hz3, hz4⟩))
 · (
 have HP1 := Lib.hid hpz; clear hpz
 refine Fact.sq fun K3 hK3 => ?_
 refine rg ?_
 refine fp fun K Z => ?_
 go_simp
 apply Z.out; clear Z K
 refine Fact.z hf fun fr1 hf1 hT => ?_
 have hKp : _ ∧ _ ∧ _ := ⟨hT 0, hT 1, hT 4⟩
 simp (decide := true) only [Fact.G, hf.size, reduceIte, s0, s1] at hKp
 replace hf := hf1; clear hT hf1 s0 s1
 obtain ⟨s0, s1, s4⟩ := hKp
 obtain ⟨W0, hW0⟩ : ∃ x, w.alloc (.cells #[.slice none 0 0, .bool false, .int .u64 0] 58) = x := ⟨_, rfl⟩
 try rw [hW0]
 have hbz0 : Below w.heap.size w W0 := by rw [← hW0]; exact (Below.refl _ _).alloc (Nat.le_refl _) _
 have hx0 : W0.heap[w.heap.size]? = some (.cells #[.slice none 0 0, .bool false, .int .u64 0] 58 (0, 0)) := by rw [← hW0]; exact heap_alloc_new w _
 clear hW0
 have hr0 := hr.later hbz0
 have hbt0 : But (fun k => k = g ∨ w.heap.size ≤ k) w W0 := But.of _ hbz0
 clear hr hbz0
 refine nx (hK3 _ _ ?_)
 refine Fact.sq fun K4 hK4 => ?_
 refine rg ?_
 have b7 := hf.b 7
 have b8 := hf.b 8
 refine fp fun K Z => ?_
 go_simp
 apply Z.out; clear Z K
 refine fp fun K Z => ?_
 go_simp
 go_at_call 49; refine (num51' W0 g s p hr0 hi hsz 0 513).mono ?_; rintro e w1 hres
 rw [HP1.out] at hres
 obtain ⟨rfl, hr1, hb1⟩ := hres
 try dsimp only
 apply Z.out; clear Z K
 refine fp fun K Z => ?_
 go_simp
 apply Z.out; clear Z K
 refine Fact.z hf fun fr1 hf1 hT => ?_
 have hKp : _ ∧ _ ∧ _ ∧ _ := ⟨hT 0, hT 1, hT 4, hT 5⟩
 simp (decide := true) only [Fact.G, hf.size, reduceIte, s0, s1, s4] at hKp
 replace hf := hf1; clear hT hf1 s0 s1 s4 b7 b8
 obtain ⟨s0, s1, s4, s5⟩ := hKp
 have hk1 := pNum_ok HP1.out
 have hx1 := hb1.heap hx0 (by intro e; have e : w.heap.size = g := e; omega)
 have hbt1 : But (fun k => k = g ∨ w.heap.size ≤ k) w w1 := hbt0.trans (hb1.mono (fun k _ h => .inl h))
 have hn513 : n ≤ 513 := hk1.2.2.2.2.1
 have e1 : w1.cell? ⟨w.heap.size, 1, none⟩ = some (.bool false) := by rw [cell_of_row _ _ 1 _ _ (0, 0) hx1]; rfl
 have fz := frozen_of (i := 1) hx1
 clear hr0 hx0 hb1
 refine nx (hK4 _ _ ?_)
 refine Fact.seq_meet (fun fr wq => ∃ (o p2 : Nat), Fact.Fr 43 fr ∧ fr.tmps[0]? = some (.pointer (some ⟨g, 0, none⟩)) ∧ fr.tmps[1]? = some (.int .u64 i) ∧ fr.tmps[4]? = some (.pointer (some ⟨w.heap.size, 0, none⟩)) ∧ fr.tmps[5]? = some (.int .u64 n) ∧ pOut s n p1 = .ok (o, p2) ∧ RD wq g s p2 ∧ p2 ≤ s.size ∧ wq.heap[w.heap.size]? = some (.cells #[.slice none 0 0, .bool (decide (n % 2 = 1)), .int .u64 o] 58 (0, 0)) ∧ But (fun k => k = g ∨ w.heap.size ≤ k) w wq) ?_ ?_
 · (
 refine Fact.sq fun K5 hK5 => ?_
 refine rg ?_
 have b9 := hf.b 9
 have b10 := hf.b 10
 have b11 := hf.b 11
 have b12 := hf.b 12
 iterate 2 (refine fp fun K Z => ?_; go_simp; apply Z.out; clear Z K)
 refine fp fun K Z => ?_
 go_simp
 rw [tmod_dec]
 apply Z.out; clear Z K
 iterate 2 (refine fp fun K Z => ?_; go_simp; apply Z.out; clear Z K)
 refine Fact.z hf fun fr1 hf1 hT => ?_
 have hKp : _ ∧ _ ∧ _ ∧ _ := ⟨hT 0, hT 1, hT 4, hT 5⟩
 simp (decide := true) only [Fact.G, reduceIte, s0, s1, s4, s5] at hKp
 replace hf := hf1; clear hT hf1 s0 s1 s4 s5 b9 b10 b11 b12
 obtain ⟨s0, s1, s4, s5⟩ := hKp
 obtain ⟨W2, hW2⟩ : ∃ x, w1.setCell ⟨w.heap.size, 1, none⟩ (.bool (decide (n % 2 = 1))) = x := ⟨_, rfl⟩
 try rw [hW2]
 have hx2 := set_block (i := 1) hx1 (.bool (decide (n % 2 = 1)))
 have hr2 : RD (w1.setCell ⟨w.heap.size, 1, none⟩ (.bool (decide (n % 2 = 1)))) g s _ := (But.setCell (S := fun k => k = w.heap.size) (p := ⟨w.heap.size, 1, none⟩) rfl _).heap hr1 (by intro e; have e : g = w.heap.size := e; omega)
 have hbt2 : But (fun k => k = g ∨ w.heap.size ≤ k) w (w1.setCell ⟨w.heap.size, 1, none⟩ (.bool (decide (n % 2 = 1)))) := hbt1.trans (But.setCell (.inr (Nat.le_refl _)) _)
 rw [hW2] at hx2 hr2 hbt2
 try rw [hW2] at hoa2
 clear hW2
 simp only [List.setIfInBounds_toArray, List.set_cons_zero, List.set_cons_succ] at hx2
 clear e1 fz hx1 hr1 hbt1
 refine nx (hK5 _ _ ?_)
 have e2 : W2.cell? ⟨w.heap.size, 1, none⟩ = some (.bool (decide (n % 2 = 1))) := by rw [cell_of_row _ _ 1 _ _ (0, 0) hx2]; rfl
 refine Fact.sq fun K6 hK6 => ?_
 refine rg ?_
 have b13 := hf.b 13
 iterate 2 (refine fp fun K Z => ?_; go_simp; apply Z.out; clear Z K)
 refine Fact.z hf fun fr1 hf1 hT => ?_
 have hKp : _ ∧ _ ∧ _ ∧ _ ∧ _ := ⟨hT 0, hT 1, hT 4, hT 5, hT 14⟩
 simp (decide := true) only [Fact.G, hf.size, reduceIte, s0, s1, s4, s5] at hKp
 replace hf := hf1; clear hT hf1 s0 s1 s4 s5 b13
 obtain ⟨s0, s1, s4, s5, s14⟩ := hKp
 refine nx (hK6 _ _ ?_)
 refine Fact.cond_s s14 (fun hq => ?_) (fun hq => ?_)
 · (
 have hodd : n % 2 = 1 := of_decide_eq_true hq
 clear hq
 rcases hpz : pNum s 0 18446744073709551615 p1 with bz | ⟨o, p2⟩
 · (
 have HPZ := Lib.hid hpz; clear hpz
 have hpo : pOut s n p1 = .error bz := by unfold pOut; rw [if_pos hodd]; exact HPZ.out
 have he : r = .error bz := by rw [← HPS.out]; unfold pState; simp only [HP1.out, hpo]
 subst he
 refine rg ?_
 have b15 := hf.b 15
 have b16 := hf.b 16
 have b17 := hf.b 17
 refine fp fun K Z => ?_
 go_simp
 apply Z.out; clear Z K
 refine fp fun K Z => ?_
 go_simp
 go_at_call 49; refine (num51' W2 g s p1 hr2 hk1.2.1 hsz 0 18446744073709551615).mono ?_; rintro e wz hres
 rw [HPZ.out] at hres
 obtain ⟨q, rfl, hz2, hz3, hz4⟩ := hres
 try dsimp only
 try dsimp only
 exact pan9 hf.defers (PanG.via hbt2 ⟨q, rfl, hz2, hz3, hz4⟩))
 · (
 have HP2 := Lib.hid hpz; clear hpz
 refine rg ?_
 have b15 := hf.b 15
 have b16 := hf.b 16
 have b17 := hf.b 17
 refine fp fun K Z => ?_
 go_simp
 apply Z.out; clear Z K
 refine fp fun K Z => ?_
 go_simp
 go_at_call 49; refine (num51' W2 g s p1 hr2 hk1.2.1 hsz 0 18446744073709551615).mono ?_; rintro e w3 hres
 rw [HP2.out] at hres
 obtain ⟨rfl, hr3, hb3⟩ := hres
 have hx3 := hb3.heap hx2 (by intro e; have e : w.heap.size = g := e; omega)
 have hbt3 : But (fun k => k = g ∨ w.heap.size ≤ k) w w3 := hbt2.trans (hb3.mono (fun k _ h => .inl h))
 have e3 : w3.cell? ⟨w.heap.size, 2, none⟩ = some (.int .u64 0) := by rw [cell_of_row _ _ 2 _ _ (0, 0) hx3]; rfl
 have fz := frozen_of (i := 2) hx3
 try dsimp only
 apply Z.out; clear Z K
 iterate 2 (refine fp fun K Z => ?_; go_simp; apply Z.out; clear Z K)
 refine Fact.z hf fun fr1 hf1 hT => ?_
 have hKp : _ ∧ _ ∧ _ ∧ _ := ⟨hT 0, hT 1, hT 4, hT 5⟩
 simp (decide := true) only [Fact.G, reduceIte, s0, s1, s4, s5] at hKp
 replace hf := hf1; clear hT hf1 s0 s1 s4 s5 s14 b15 b16 b17
 obtain ⟨s0, s1, s4, s5⟩ := hKp
 obtain ⟨W4, hW4⟩ : ∃ x, w3.setCell ⟨w.heap.size, 2, none⟩ (.int .u64 o) = x := ⟨_, rfl⟩
 try rw [hW4]
 have hxq := set_block (i := 2) hx3 (.int .u64 o)
 have hrq : RD (w3.setCell ⟨w.heap.size, 2, none⟩ (.int .u64 o)) g s _ := (But.setCell (S := fun k => k = w.heap.size) (p := ⟨w.heap.size, 2, none⟩) rfl _).heap hr3 (by intro e; have e : g = w.heap.size := e; omega)
 have hbtq : But (fun k => k = g ∨ w.heap.size ≤ k) w (w3.setCell ⟨w.heap.size, 2, none⟩ (.int .u64 o)) := hbt3.trans (But.setCell (.inr (Nat.le_refl _)) _)
 rw [hW4] at hxq hrq hbtq
 try rw [hW4] at hoaq
 clear hW4
 simp only [List.setIfInBounds_toArray, List.set_cons_zero, List.set_cons_succ] at hxq
 have hpo : pOut s n p1 = .ok (o, p2) := by unfold pOut; rw [if_pos hodd]; exact HP2.out
 have hpq := (pNum_ok HP2.out).2.1
 have hrq := hrq; have hbq := hbtq
 refine Fact.then_normal ?_
 exact ⟨_, _, hf, s0, s1, s4, s5, hpo, hrq, hpq, hxq, hbq⟩))
 · (
 have hpo : pOut s n p1 = .ok (0, p1) := by unfold pOut; rw [if_neg (of_decide_eq_false hq)]
 have hpq : p1 ≤ s.size := hk1.2.1
 have hrq := hr2; have hxq := hx2; have hbq := hbt2
 clear hq
 refine wp_skip ?_
 refine Fact.then_normal ?_
 exact ⟨_, _, hf, s0, s1, s4, s5, hpo, hrq, hpq, hxq, hbq⟩))
 · (
 clear hf s0 s1 s4 s5
 rintro fr wq ⟨o, p2, hf, s0, s1, s4, s5, hpo, hrq, hpq, hxq, hbq⟩
 have HPO := Lib.hid hpo; clear hpo
 obtain ⟨m, hm⟩ : ∃ x, n / 2 = x := ⟨_, rfl⟩
 have hm9 : m ≤ 256 := by omega
 have HM := Lib.hid hm; clear hm
 have hps : pState s i p = pMk n o (pArcs s i m p2 []) := by unfold pState; simp only [HP1.out, HPO.out, HM.out]
 rw [HPS.out] at hps
 have HPS2 := Lib.hid hps; clear hps
 refine Fact.sq fun K7 hK7 => ?_
 refine Fact.sq fun K8 hK8 => ?_
 refine rg ?_
 have b18 := hf.b 18
 refine fp fun K Z => ?_
 go_simp
 apply Z.out; clear Z K
 refine fp fun K Z => ?_
 go_simp
 rw [show IntKind.u64.wrap ((n : Int) / 2) = ((m : Nat) : Int) by rw [Fact.wrap_u64 (by omega) (by omega)]; have := HM.out; omega]
 apply Z.out; clear Z K
 refine fp fun K Z => ?_
 go_simp
 apply Z.out; clear Z K
 refine Fact.z hf fun fr1 hf1 hT => ?_
 have hKp : _ ∧ _ ∧ _ ∧ _ ∧ _ := ⟨hT 0, hT 1, hT 4, hT 19, hT 20⟩
 simp (decide := true) only [Fact.G, hf.size, reduceIte, s0, s1, s4] at hKp
 replace hf := hf1; clear hT hf1 s0 s1 s4 s5 b18
 obtain ⟨s0, s1, s4, s19, s20⟩ := hKp
 refine nx (hK8 _ _ ?_)
 refine wp_block ?_
 refine wp_loop_ghost (fun gk fr wr => ∃ (k pk : Nat) (acc : List Arc) (av : Value), gk = m - k ∧ k ≤ m ∧ Fact.Fr 43 fr ∧ fr.tmps[0]? = some (.pointer (some ⟨g, 0, none⟩)) ∧ fr.tmps[1]? = some (.int .u64 i) ∧ fr.tmps[4]? = some (.pointer (some ⟨w.heap.size, 0, none⟩)) ∧ fr.tmps[19]? = some (.int .u64 m) ∧ fr.tmps[20]? = some (.int .u64 k) ∧ pArcs s i m p2 [] = pArcs s i (m - k) pk acc ∧ RD wr g s pk ∧ pk ≤ s.size ∧ wr.heap[w.heap.size]? = some (.cells #[av, .bool (decide (n % 2 = 1)), .int .u64 o] 58 (0, 0)) ∧ OA wr w.heap.size av acc ∧ av.ownBlock ≠ some w.heap.size ∧ acc.length = k ∧ But (fun k => k = g ∨ w.heap.size ≤ k) w wr) (m) ?_ ?_
 · (
 exact ⟨0, p2, [], _, rfl, Nat.zero_le _, hf, s0, s1, s4, s19, s20, rfl, hrq, hpq, hxq, OA.nil_ _ _, (by intro e; cases e), rfl, hbq⟩)
 · (
 clear hf s0 s1 s4 s19 s20
 rintro gk fr wr ⟨k, pk, acc, av, hk, hki, hf, s0, s1, s4, s19, s20, hpa, hr5, hp5, hx5, hoa, hav, hal, hbt⟩
 have hal9 : acc.length ≤ 1000 := by omega
 have HAL := Lib.hid hal; have HK := Lib.hid hk; have HPA := Lib.hid hpa; clear hk hpa hal
 refine Fact.sq fun K9 hK9 => ?_
 refine rg ?_
 refine fp fun K Z => ?_
 go_simp
 apply Z.out; clear Z K
 refine Fact.z hf fun fr1 hf1 hT => ?_
 have hKp : _ ∧ _ ∧ _ ∧ _ ∧ _ ∧ _ := ⟨hT 0, hT 1, hT 4, hT 19, hT 20, hT 21⟩
 simp (decide := true) only [Fact.G, hf.size, reduceIte, s0, s1, s4, s19, s20] at hKp
 replace hf := hf1; clear hT hf1 s0 s1 s4 s19 s20
 obtain ⟨s0, s1, s4, s19, s20, s21⟩ := hKp
 refine nx (hK9 _ _ ?_)
 refine Fact.sq fun K10 hK10 => ?_
 refine Fact.cond_s s21 (fun hq => ?_) (fun hq => ?_)
 · (
 have hklt : k < m := by have h9 := of_decide_eq_true hq; omega
 clear hq
 obtain ⟨u, hu⟩ : ∃ u, m - k = u + 1 := ⟨m - k - 1, by omega⟩
 have HU := Lib.hid hu; clear hu
 rcases hpz : pChar s pk with bz | ⟨c, q1⟩
 · (
 have HPZ := Lib.hid hpz; clear hpz
 have he : r = .error bz := by rw [HPS2.out, HPA.out, HU.out]; simp only [pArcs, HPZ.out]; rfl
 subst he
 refine wp_skip ?_
 refine nx (hK10 _ _ ?_)
 refine Fact.sq fun K11 hK11 => ?_
 refine wp_block ?_
 refine Fact.sq fun K12 hK12 => ?_
 refine rg ?_
 have b22 := hf.b 22
 have b23 := hf.b 23
 have b24 := hf.b 24
 have b6 := hf.b 6
 refine fp fun K Z => ?_
 go_simp
 apply Z.out; clear Z K
 refine fp fun K Z => ?_
 go_simp
 go_at_call 47; refine (char49' wr g s pk hr5 hp5 hsz).mono ?_; rintro e wz hres
 rw [HPZ.out] at hres
 obtain ⟨q, rfl, hz2, hz3, hz4⟩ := hres
 try dsimp only
 try dsimp only
 exact pan9 hf.defers (PanG.via hbt ⟨q, rfl, hz2, hz3, hz4⟩))
 · (
 have HP3 := Lib.hid hpz; clear hpz
 refine wp_skip ?_
 refine nx (hK10 _ _ ?_)
 refine Fact.sq fun K13 hK13 => ?_
 refine wp_block ?_
 refine Fact.sq fun K14 hK14 => ?_
 refine rg ?_
 have b22 := hf.b 22
 have b23 := hf.b 23
 have b24 := hf.b 24
 have b6 := hf.b 6
 refine fp fun K Z => ?_
 go_simp
 apply Z.out; clear Z K
 refine fp fun K Z => ?_
 go_simp
 go_at_call 47; refine (char49' wr g s pk hr5 hp5 hsz).mono ?_; rintro e w6 hres
 rw [HP3.out] at hres
 obtain ⟨rfl, hr6, hb6⟩ := hres
 try dsimp only
 apply Z.out; clear Z K
 iterate 3 (refine fp fun K Z => ?_; go_simp; apply Z.out; clear Z K)
 refine Fact.z hf fun fr1 hf1 hT => ?_
 have hKp : _ ∧ _ ∧ _ ∧ _ ∧ _ ∧ _ := ⟨hT 0, hT 1, hT 4, hT 6, hT 19, hT 20⟩
 simp (decide := true) only [Fact.G, hf.size, reduceIte, s0, s1, s4, s19, s20] at hKp
 replace hf := hf1; clear hT hf1 s0 s1 s4 s19 s20 s21 b22 b23 b24 b6
 obtain ⟨s0, s1, s4, s6, s19, s20⟩ := hKp
 have hk6 := pChar_ok hp5 HP3.out
 have hx6 := hb6.heap hx5 (by intro e; have e : w.heap.size = g := e; omega)
 have hbt6 : But (fun k => k = g ∨ w.heap.size ≤ k) w w6 := hbt.trans (hb6.mono (fun k _ h => .inl h))
 have hoa6 := own_but hoa hb6 (fun k hk e => by have e : k = g := e; have := (World.ownsRow.lt hoa k hk).1; omega)
 have hBA := heap_lt hx6
 have hvA : ∀ k, av.ownBlock = some k → k < w6.heap.size := fun k hk => (World.ownsRow.lt hoa6 k hk).2
 obtain ⟨W7, hW7⟩ : ∃ x, w6.alloc (.cells #[.int .u8 c, .int .u64 0, .int .i64 0] 60) = x := ⟨_, rfl⟩
 try rw [hW7]
 have hb7 : Below w6.heap.size w6 W7 := by rw [← hW7]; exact (Below.refl _ _).alloc (Nat.le_refl _) _
 have hA7 : W7.heap[w6.heap.size]? = some (.cells #[.int .u8 c, .int .u64 0, .int .i64 0] 60 (0, 0)) := by rw [← hW7]; exact heap_alloc_new w6 _
 obtain ⟨A, hA⟩ : ∃ x, w6.heap.size = x := ⟨_, rfl⟩
 rw [hA] at hBA hvA hA7 s6
 have hr7 := hr6.later hb7
 have hx7 := (hb7.block _ (by omega)).trans hx6
 have hoa7 := own_later hoa6 hb7
 have hbt7 : But (fun k => k = g ∨ w.heap.size ≤ k) w W7 := hbt6.trans (But.of _ hb7)
 clear hW7 hA hb7 hb6 hr6 hx6 hoa6 hbt6 hr5 hx5 hoa hbt
 refine nx (hK14 _ _ ?_)
 rcases hpz : pNum s 0 18446744073709551615 q1 with bz | ⟨oo, q2⟩
 · (
 have HPZ := Lib.hid hpz; clear hpz
 have he : r = .error bz := by rw [HPS2.out, HPA.out, HU.out]; simp only [pArcs, HP3.out, HPZ.out]; rfl
 subst he
 refine Fact.sq fun K15 hK15 => ?_
 refine rg ?_
 have b25 := hf.b 25
 have b26 := hf.b 26
 have b27 := hf.b 27
 refine fp fun K Z => ?_
 go_simp
 apply Z.out; clear Z K
 refine fp fun K Z => ?_
 go_simp
 go_at_call 49; refine (num51' W7 g s q1 hr7 hk6.2.1 hsz 0 18446744073709551615).mono ?_; rintro e wz hres
 rw [HPZ.out] at hres
 obtain ⟨q, rfl, hz2, hz3, hz4⟩ := hres
 try dsimp only
 try dsimp only
 exact pan9 hf.defers (PanG.via hbt7 ⟨q, rfl, hz2, hz3, hz4⟩))
 · (
 have HP4 := Lib.hid hpz; clear hpz
 refine Fact.sq fun K16 hK16 => ?_
 refine rg ?_
 have b25 := hf.b 25
 have b26 := hf.b 26
 have b27 := hf.b 27
 refine fp fun K Z => ?_
 go_simp
 apply Z.out; clear Z K
 refine fp fun K Z => ?_
 go_simp
 go_at_call 49; refine (num51' W7 g s q1 hr7 hk6.2.1 hsz 0 18446744073709551615).mono ?_; rintro e w8 hres
 rw [HP4.out] at hres
 obtain ⟨rfl, hr8, hb8⟩ := hres
 have hA8 := hb8.heap hA7 (by intro e; have e : A = g := e; omega)
 have hx8 := hb8.heap hx7 (by intro e; have e : w.heap.size = g := e; omega)
 have hoa8 := own_but hoa7 hb8 (fun k hk e => by have e : k = g := e; have := (World.ownsRow.lt hoa7 k hk).1; omega)
 have hbt8 : But (fun k => k = g ∨ w.heap.size ≤ k) w w8 := hbt7.trans (hb8.mono (fun k _ h => .inl h))
 clear hb8 hA7 hx7 hoa7 hbt7 hr7
 have y1 : w8.cell? ⟨A, 1, none⟩ = some (.int .u64 0) := by rw [cell_of_row _ _ 1 _ _ (0, 0) hA8]; rfl
 have fz := frozen_of (i := 1) hA8
 try dsimp only
 apply Z.out; clear Z K
 iterate 2 (refine fp fun K Z => ?_; go_simp; apply Z.out; clear Z K)
 refine Fact.z hf fun fr1 hf1 hT => ?_
 have hKp : _ ∧ _ ∧ _ ∧ _ ∧ _ ∧ _ := ⟨hT 0, hT 1, hT 4, hT 6, hT 19, hT 20⟩
 simp (decide := true) only [Fact.G, reduceIte, s0, s1, s4, s6, s19, s20] at hKp
 replace hf := hf1; clear hT hf1 s0 s1 s4 s6 s19 s20 b25 b26 b27
 obtain ⟨s0, s1, s4, s6, s19, s20⟩ := hKp
 obtain ⟨W9, hW9⟩ : ∃ x, w8.setCell ⟨A, 1, none⟩ (.int .u64 oo) = x := ⟨_, rfl⟩
 try rw [hW9]
 have hA9 := set_block (i := 1) hA8 (.int .u64 oo)
 have hr9 : RD (w8.setCell ⟨A, 1, none⟩ (.int .u64 oo)) g s _ := (But.setCell (S := fun k => k = A) (w := w8) (p := ⟨A, 1, none⟩) rfl (.int .u64 oo)).heap hr8 (by intro e; have e : g = A := e; omega)
 have hx9 := (But.setCell (S := fun k => k = A) (w := w8) (p := ⟨A, 1, none⟩) rfl (.int .u64 oo)).heap hx8 (by intro e; have e : w.heap.size = A := e; omega)
 have hoa9 := own_but hoa8 (But.setCell (S := fun k => k = A) (w := w8) (p := ⟨A, 1, none⟩) rfl (.int .u64 oo)) (fun k hk e => by have e : k = A := e; have := hvA k hk; omega)
 have hbt9 : But (fun k => k = g ∨ w.heap.size ≤ k) w (w8.setCell ⟨A, 1, none⟩ (.int .u64 oo)) := hbt8.trans (But.setCell (.inr (Nat.le_of_lt hBA)) _)
 rw [hW9] at hA9 hr9 hx9 hoa9 hbt9
 clear hW9 hA8 hr8 hx8 hoa8 hbt8
 simp only [List.setIfInBounds_toArray, List.set_cons_zero, List.set_cons_succ] at hA9
 clear y1 fz
 have hk8 := pNum_ok HP4.out
 refine nx (hK16 _ _ ?_)
 rcases hpz : pNum s 1 i q2 with bz | ⟨dd, q3⟩
 · (
 have HPZ := Lib.hid hpz; clear hpz
 have he : r = .error bz := by rw [HPS2.out, HPA.out, HU.out]; simp only [pArcs, HP3.out, HP4.out, HPZ.out]; rfl
 subst he
 refine Fact.sq fun K17 hK17 => ?_
 refine rg ?_
 have b28 := hf.b 28
 have b29 := hf.b 29
 have b30 := hf.b 30
 have b31 := hf.b 31
 have b32 := hf.b 32
 have b33 := hf.b 33
 have b34 := hf.b 34
 iterate 3 (refine fp fun K Z => ?_; go_simp; apply Z.out; clear Z K)
 refine fp fun K Z => ?_
 go_simp
 go_at_call 49; refine (num51' W9 g s q2 hr9 hk8.2.1 hsz 1 i).mono ?_; rintro e wz hres
 rw [HPZ.out] at hres
 obtain ⟨q, rfl, hz2, hz3, hz4⟩ := hres
 try dsimp only
 try dsimp only
 exact pan9 hf.defers (PanG.via hbt9 ⟨q, rfl, hz2, hz3, hz4⟩))
 · (
 have HP5 := Lib.hid hpz; clear hpz
 have hkd := pNum_ok HP5.out
 obtain ⟨t, ht⟩ : ∃ x, i - dd = x := ⟨_, rfl⟩
 have htb : t ≤ 1000000000 := by omega
 have hti : (i : Int) - (dd : Nat) = ((t : Nat) : Int) := by have := hkd.2.2.2; omega
 have HTI := Lib.hid hti; have HT := Lib.hid ht; clear hti ht
 refine Fact.sq fun K18 hK18 => ?_
 refine rg ?_
 have b28 := hf.b 28
 have b29 := hf.b 29
 have b30 := hf.b 30
 have b31 := hf.b 31
 have b32 := hf.b 32
 have b33 := hf.b 33
 have b34 := hf.b 34
 iterate 3 (refine fp fun K Z => ?_; go_simp; apply Z.out; clear Z K)
 refine fp fun K Z => ?_
 go_simp
 go_at_call 49; refine (num51' W9 g s q2 hr9 hk8.2.1 hsz 1 i).mono ?_; rintro e w10 hres
 rw [HP5.out] at hres
 obtain ⟨rfl, hr10, hb10⟩ := hres
 have hA10 := hb10.heap hA9 (by intro e; have e : A = g := e; omega)
 have hx10 := hb10.heap hx9 (by intro e; have e : w.heap.size = g := e; omega)
 have hoa10 := own_but hoa9 hb10 (fun k hk e => by have e : k = g := e; have := (World.ownsRow.lt hoa9 k hk).1; omega)
 have hbt10 : But (fun k => k = g ∨ w.heap.size ≤ k) w w10 := hbt9.trans (hb10.mono (fun k _ h => .inl h))
 clear hb10 hA9 hx9 hoa9 hbt9 hr9
 have y2 : w10.cell? ⟨A, 2, none⟩ = some (.int .i64 0) := by rw [cell_of_row _ _ 2 _ _ (0, 0) hA10]; rfl
 have fz := frozen_of (i := 2) hA10
 try dsimp only
 apply Z.out; clear Z K
 refine fp fun K Z => ?_
 go_simp
 try simp (disch := omega) only [Fact.W]
 try rw [HTI.out]
 try rw [Fact.wrap_u64 (by omega) (by omega)]
 apply Z.out; clear Z K
 refine fp fun K Z => ?_
 go_simp
 try rw [HTI.out]
 try rw [Fact.wrap_i64 (by omega) (by omega)]
 apply Z.out; clear Z K
 iterate 2 (refine fp fun K Z => ?_; go_simp; apply Z.out; clear Z K)
 refine Fact.z hf fun fr1 hf1 hT => ?_
 have hKp : _ ∧ _ ∧ _ ∧ _ ∧ _ ∧ _ := ⟨hT 0, hT 1, hT 4, hT 6, hT 19, hT 20⟩
 simp (decide := true) only [Fact.G, reduceIte, s0, s1, s4, s6, s19, s20] at hKp
 replace hf := hf1; clear hT hf1 s0 s1 s4 s6 s19 s20 b28 b29 b30 b31 b32 b33 b34
 obtain ⟨s0, s1, s4, s6, s19, s20⟩ := hKp
 obtain ⟨W11, hW11⟩ : ∃ x, w10.setCell ⟨A, 2, none⟩ (.int .i64 t) = x := ⟨_, rfl⟩
 try rw [hW11]
 have hA11 := set_block (i := 2) hA10 (.int .i64 t)
 have hr11 : RD (w10.setCell ⟨A, 2, none⟩ (.int .i64 t)) g s _ := (But.setCell (S := fun k => k = A) (w := w10) (p := ⟨A, 2, none⟩) rfl (.int .i64 t)).heap hr10 (by intro e; have e : g = A := e; omega)
 have hx11 := (But.setCell (S := fun k => k = A) (w := w10) (p := ⟨A, 2, none⟩) rfl (.int .i64 t)).heap hx10 (by intro e; have e : w.heap.size = A := e; omega)
 have hoa11 := own_but hoa10 (But.setCell (S := fun k => k = A) (w := w10) (p := ⟨A, 2, none⟩) rfl (.int .i64 t)) (fun k hk e => by have e : k = A := e; have := hvA k hk; omega)
 have hbt11 : But (fun k => k = g ∨ w.heap.size ≤ k) w (w10.setCell ⟨A, 2, none⟩ (.int .i64 t)) := hbt10.trans (But.setCell (.inr (Nat.le_of_lt hBA)) _)
 rw [hW11] at hA11 hr11 hx11 hoa11 hbt11
 clear hW11 hA10 hr10 hx10 hoa10 hbt10
 simp only [List.setIfInBounds_toArray, List.set_cons_zero, List.set_cons_succ] at hA11
 clear y2 fz
 have a0 : W11.cell? ⟨A, 0, none⟩ = some (.int .u8 c) := by rw [cell_of_row _ _ 0 _ _ (0, 0) hA11]; rfl
 have a1 : W11.cell? ⟨A, 1, none⟩ = some (.int .u64 oo) := by rw [cell_of_row _ _ 1 _ _ (0, 0) hA11]; rfl
 have a2 : W11.cell? ⟨A, 2, none⟩ = some (.int .i64 t) := by rw [cell_of_row _ _ 2 _ _ (0, 0) hA11]; rfl
 have af0 := frozen_of (i := 0) hA11
 have af1 := frozen_of (i := 1) hA11
 have af2 := frozen_of (i := 2) hA11
 have e0 : W11.cell? ⟨w.heap.size, 0, none⟩ = some av := by rw [cell_of_row _ _ 0 _ _ (0, 0) hx11]; rfl
 refine nx (hK18 _ _ ?_)
 refine rg ?_
 have b35 := hf.b 35
 have b36 := hf.b 36
 have b37 := hf.b 37
 have b38 := hf.b 38
 have b39 := hf.b 39
 have b40 := hf.b 40
 iterate 3 (refine fp fun K Z => ?_; go_simp; apply Z.out; clear Z K)
 refine fp fun K Z => ?_
 go_simp
 obtain ⟨W12, hW12⟩ : ∃ x, W11.alloc (.cells #[.int .u8 c, .int .u64 oo, .int .i64 t] 60) = x := ⟨_, rfl⟩
 try rw [hW12]
 have hlit : ∀ (j : Nat) (u : Value), ([.int .u8 c, .int .u64 oo, .int .i64 t] : List Value)[j]? = some u → W12.cell? ⟨W11.heap.size, j, none⟩ = some u := by rw [← hW12]; exact lit_new W11 _ _
 have hbl : Below W11.heap.size W11 W12 := by rw [← hW12]; exact (Below.refl _ _).alloc (Nat.le_refl _) _
 clear hW12
 have hr12 := hr11.later hbl
 have hx12 := (hbl.block _ (heap_lt hx11)).trans hx11
 have hoa12 := own_later hoa11 hbl
 have hbt12 : But (fun k => k = g ∨ w.heap.size ≤ k) w W12 := hbt11.trans (But.of _ hbl)
 apply Z.out; clear Z K
 refine Fact.reL (n := 43) (by simp only [Fact.G, hf.size]) hf.defers (fun fr1 hf1 hT => ?_)
 have hKp : _ ∧ _ ∧ _ ∧ _ ∧ _ ∧ _ ∧ _ := ⟨hT 0, hT 1, hT 4, hT 19, hT 20, hT 36, hT 38⟩
 simp (decide := true) only [Fact.G, hf.size, reduceIte, s0, s1, s4, s19, s20] at hKp
 replace hf := hf1; clear hT hf1 s0 s1 s4 s6 s19 s20 b35 b36 b37 b38 b39 b40
 obtain ⟨s0, s1, s4, s19, s20, s36, s38⟩ := hKp
 have b39 := hf.b 39
 have b40 := hf.b 40
 refine ⟨?_⟩
 refine wpList_plain rfl fun KL hKL => ?_
 refine wp_app _ _ 56 rfl 60 _ 3 24 Tryz.underlying56 info_arc rfl (by decide) (by decide) w.heap.size av acc.length (acs acc) (Fact.eval_tmp s36) hoa12 W11.heap.size [.int .u8 c, .int .u64 oo, .int .i64 t] (Fact.eval_tmp s38) rfl hlit (by intro u hu; simp at hu; rcases hu with rfl | rfl | rfl <;> rfl) (by omega) hbt12.size (fun v13 w13 hw13 hg13 hat13 => hKL _ _ ?_)
 refine Fact.L.out ?_
 refine fp fun K Z => ?_
 go_simp
 apply Z.out; clear Z K
 have hx13 := (hg13.block w.heap.size (heap_lt hx12) (fun e => hav e.symm)).trans hx12
 have hr13 : RD w13 g s q3 := (hg13.block g (heap_lt hr12) (fun e => by have := (World.ownsRow.lt hoa12 _ e.symm).1; omega)).trans hr12
 have hbt13 : But (fun k => k = g ∨ w.heap.size ≤ k) w w13 := hbt12.trans (But.grown hg13 (fun k hk => .inr (World.ownsRow.lt hoa12 k hk).1))
 have hv13 : v13.ownBlock ≠ some w.heap.size := by rcases hat13 with h | h; (rw [h]; exact hav); (rw [h]; intro e; injection e with e; have := heap_lt hx12; omega)
 have hoa13 : OA w13 w.heap.size v13 (acc ++ [⟨c, oo, ((t : Nat) : Int)⟩]) := by unfold OA; rw [List.length_append, acs_append]; exact hw13
 obtain ⟨A9, c9, hv9, _⟩ := row_form hw13
 subst hv9
 have e1 : w13.cell? ⟨w.heap.size, 0, none⟩ = some av := by rw [cell_of_row _ _ 0 _ _ (0, 0) hx13]; rfl
 have fz := frozen_of (i := 0) hx13
 refine fp fun K Z => ?_
 go_simp
 apply Z.out; clear Z K
 refine Fact.z hf fun fr1 hf1 hT => ?_
 have hKp : _ ∧ _ ∧ _ ∧ _ ∧ _ := ⟨hT 0, hT 1, hT 4, hT 19, hT 20⟩
 simp (decide := true) only [Fact.G, reduceIte, s0, s1, s4, s19, s20] at hKp
 replace hf := hf1; clear hT hf1 s0 s1 s4 s19 s20 s36 s38 b39 b40
 obtain ⟨s0, s1, s4, s19, s20⟩ := hKp
 have hoa14 := own_but hoa13 (But.setCell (S := fun k => k = w.heap.size) (w := w13) (p := ⟨w.heap.size, 0, none⟩) rfl (.slice A9 (acc.length + 1) c9)) (fun k hk e => hv13 (by rw [hk, e]))
 obtain ⟨W14, hW14⟩ : ∃ x, w13.setCell ⟨w.heap.size, 0, none⟩ (.slice A9 (acc.length + 1) c9) = x := ⟨_, rfl⟩
 try rw [hW14]
 have hx14 := set_block (i := 0) hx13 (.slice A9 (acc.length + 1) c9)
 have hr14 : RD (w13.setCell ⟨w.heap.size, 0, none⟩ (.slice A9 (acc.length + 1) c9)) g s _ := (But.setCell (S := fun k => k = w.heap.size) (p := ⟨w.heap.size, 0, none⟩) rfl _).heap hr13 (by intro e; have e : g = w.heap.size := e; omega)
 have hbt14 : But (fun k => k = g ∨ w.heap.size ≤ k) w (w13.setCell ⟨w.heap.size, 0, none⟩ (.slice A9 (acc.length + 1) c9)) := hbt13.trans (But.setCell (.inr (Nat.le_refl _)) _)
 rw [hW14] at hx14 hr14 hbt14
 try rw [hW14] at hoa14
 clear hW14
 simp only [List.setIfInBounds_toArray, List.set_cons_zero, List.set_cons_succ] at hx14
 skip
 have hpa2 : pArcs s i m p2 [] = pArcs s i (m - (k + 1)) q3 (acc ++ [⟨c, oo, ((t : Nat) : Int)⟩]) := by rw [HPA.out, HU.out, show m - (k + 1) = u by have := HU.out; omega]; simp only [pArcs, HP3.out, HP4.out, HP5.out, HT.out]
 refine Fact.block_normal ?_
 refine nx (hK13 _ _ ?_)
 refine rg ?_
 have b41 := hf.b 41
 refine fp fun K Z => ?_
 go_simp
 try simp (disch := omega) only [Fact.W]
 apply Z.out; clear Z K
 refine fp fun K Z => ?_
 go_simp
 apply Z.out; clear Z K
 refine Fact.z hf fun fr1 hf1 hT => ?_
 have hKp : _ ∧ _ ∧ _ ∧ _ ∧ _ := ⟨hT 0, hT 1, hT 4, hT 19, hT 20⟩
 simp (decide := true) only [Fact.G, hf.size, reduceIte, s0, s1, s4, s19] at hKp
 replace hf := hf1; clear hT hf1 s0 s1 s4 s19 s20 b41
 obtain ⟨s0, s1, s4, s19, s20⟩ := hKp
 refine Fact.then_normal ?_
 exact ⟨_, by have := HK.out; omega, k + 1, q3, _, _, rfl, by omega, hf, s0, s1, s4, s19, by rw [s20]; rfl, hpa2, hr14, hkd.2.1, hx14, hoa14, hv13, by simp [HAL.out], hbt14⟩))))
 · (
 have hke : m - k = 0 := by have h9 := of_decide_eq_false hq; omega
 have he : r = .ok ({ arcs := acc, final := decide (n % 2 = 1), out := o }, pk) := by rw [HPS2.out, HPA.out, hke]; rfl
 subst he
 clear hq hke
 obtain ⟨Aa, ca, hva, _⟩ := row_form hoa
 subst hva
 have e0 : wr.cell? ⟨w.heap.size, 0, none⟩ = some (.slice Aa acc.length ca) := by rw [cell_of_row _ _ 0 _ _ (0, 0) hx5]; rfl
 have e1 : wr.cell? ⟨w.heap.size, 1, none⟩ = some (.bool (decide (n % 2 = 1))) := by rw [cell_of_row _ _ 1 _ _ (0, 0) hx5]; rfl
 have e2 : wr.cell? ⟨w.heap.size, 2, none⟩ = some (.int .u64 o) := by rw [cell_of_row _ _ 2 _ _ (0, 0) hx5]; rfl
 have ef0 := frozen_of (i := 0) hx5
 have ef1 := frozen_of (i := 1) hx5
 have ef2 := frozen_of (i := 2) hx5
 refine wp_exit ?_
 refine Fact.then_exit ?_
 refine Fact.then_exit ?_
 refine Fact.block_exit ?_
 refine nx (hK7 _ _ ?_)
 refine Fact.sq fun K19 hK19 => ?_
 refine rg ?_
 have b42 := hf.b 42
 iterate 2 (refine fp fun K Z => ?_; go_simp; apply Z.out; clear Z K)
 refine Fact.z hf fun fr1 hf1 hT => ?_
 have hKp := hT 4
 simp (decide := true) only [Fact.G, reduceIte, s4] at hKp
 replace hf := hf1; clear hT hf1 s0 s1 s4 s19 s20 s21 b42
 have s4 := hKp; clear hKp
 refine nx (hK19 _ _ ?_)
 refine wp_ret ?_
 have hb3 : But (fun k => k = w.heap.size) wr _ := ((But.setCell (S := fun k => k = w.heap.size) (w := wr) (p := ⟨w.heap.size, 0, none⟩) rfl (.slice Aa acc.length ca)).trans (But.setCell (S := fun k => k = w.heap.size) (p := ⟨w.heap.size, 1, none⟩) rfl (.bool (decide (n % 2 = 1))))).trans (But.setCell (S := fun k => k = w.heap.size) (p := ⟨w.heap.size, 2, none⟩) rfl (.int .u64 o))
 exact ret_c rfl hf s4 (set_block (set_block (set_block hx5 _) _) _) Tryz.underlying58 rfl (by kernel_rfl) ⟨_, by simp, hb3.heap hr5 (by intro e; have e : g = w.heap.size := e; omega), own_but hoa hb3 (fun k hk e => hav (by rw [hk, e])), (hbt.trans (hb3.mono (fun k _ h => .inr (by omega)))).mono (fun k hk h => h.elim id (fun h => by omega))⟩))))
end Dw
end Go.Proofs.YtdkbgbdgmihlmaaGreatDoor
