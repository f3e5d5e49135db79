/- Dawg: the document's Build. -/
import Derived.Test.YtdkbgbdgmihlmaaDoorQT
import Derived.Test.YtdkbgbdgmihlmaaDoorDLawP
import Derived.Test.YtdkbgbdgmihlmaaDoorQH
import Derived.Test.YtdkbgbdgmihlmaaDoorTools
namespace Go.Proofs.YtdkbgbdgmihlmaaDoor
open Go.RowKit
set_option linter.unusedSimpArgs false
set_option linter.unusedVariables false
set_option linter.unnecessarySimpa false
namespace Dw

theorem state_any : ∀ f, StateOk f
  | 0 => fun w base g v B ss es lv d le hm hbase hre hap hes hlen hwd hd hle hfin hfew h0 => by
    obtain ⟨e, he⟩ : ∃ e, e ∈ es := ⟨es[0], List.getElem_mem h0⟩
    have := hwd e he
    omega
  | f + 1 => fun w base g v B ss es lv d le hm hbase hre hap hes hlen hwd hd hle hfin hfew h0 => state_step w f base g v B ss es lv d le (state_any f) hm hbase hre hap hes hlen hwd hd hle hfin hfew
theorem adds_bnd : ∀ (l : List Wv) (x : List State × List Open) (last : List Nat) (N M : Nat), BndU N M x.1 x.2 → (∀ e ∈ l, (∀ b ∈ e.1, b < 256) ∧ e.1.length ≤ 255 ∧ e.2 < 18446744073709551616) → N + l.length ≤ 200 → M + 255 * l.length ≤ 1000000 → BndU (N + l.length) (M + 255 * l.length) (adds x last l).1 (adds x last l).2
  | [], x, last, N, M, h, _, _, _ => h
  | e :: l, (ss, way), last, N, M, h, he, hN, hM => by
    obtain ⟨e1, e2, e3⟩ := he e (List.mem_cons_self ..)
    simp only [List.length_cons] at hN hM ⊢
    have h1 := BndU.add (ss := ss) (way := way) (last := last) h (by omega) (by omega) e1 e3
    have h2 : BndU (N + 1) (M + 255) (add (ss, way) last e).1 (add (ss, way) last e).2 := ⟨h1.all, by have := h1.size; omega⟩
    have h3 := adds_bnd l (add (ss, way) last e) e.1 (N + 1) (M + 255) h2 (fun y hy => he y (List.mem_cons_of_mem _ hy)) (by omega) (by omega)
    exact ⟨fun o ho => (h3.all o ho).more (by omega), by have := h3.size; rw [adds_cons]; omega⟩
theorem build_few {l : List Wv} (hl : l.length ≤ 30) (h : ∀ e ∈ l, (∀ b ∈ e.1, b < 256) ∧ e.1.length ≤ 255 ∧ e.2 < 18446744073709551616) : (build l).states.length ≤ 10000 := by
  have h1 := adds_bnd l ([], [⟨zeroS, 0⟩]) [] 0 1 ⟨fun o ho => by simp at ho; subst ho; exact zero_okO 0 (by omega), by simp⟩ h (by omega) (by omega)
  have h2 := Bnd.closeN (by omega) (by omega) ((adds ([], [⟨zeroS, 0⟩]) [] l).2.length - (0 + 1)) _ _ h1.bnd
  unfold build
  simp only
  refine Nat.le_trans (finish_length _ _).1 ?_
  have h3 := h2.size
  simp only [close]
  omega
set_option maxHeartbeats 4000000 in
set_option maxRecDepth 100000 in
theorem rbuild_b (w : World) (es : List Ent) (B : Nat) (v : Value) (hB : B ≤ w.heap.size) (hre : RE w B v es) (hlen : es.length ≤ 30) (hes : ∀ e ∈ es, okE e) (hchk : chkN es ≠ 0) : Calls Tryd.prog 40 #[v] w fun e w1 => e = .returned (.tuple #[.agg #[.slice none 0 0, .int .u64 0], .int .i64 (chkN es : Nat)]) ∧ Below w.heap.size w w1 := by
 refine calls_of_wp Tryd.func40 rfl ?_
 refine Fact.en 37 fun fr hf hT => ?_
 have s0 := hT 0 _ rfl
 clear hT
 have hre0 := hre.any
 clear hre
 have HES := Lib.hid hes; have HC := Lib.hid hchk; clear hes hchk
 refine Fact.sq fun K1 hK1 => ?_
 refine rg ?_
 refine fp fun K Z => ?_
 go_simp
 apply Z.out; clear Z K
 refine fp fun K Z => ?_
 go_simp
 apply Z.out; clear Z K
 refine Fact.z hf fun fr1 hf1 hT => ?_
 have hKp : _ ∧ _ := ⟨hT 0, hT 2⟩
 simp (decide := true) only [Fact.G, hf.size, reduceIte, s0] at hKp
 replace hf := hf1; clear hT hf1 s0
 obtain ⟨s0, s2⟩ := hKp
 obtain ⟨W0, hW0⟩ : ∃ W0, w.alloc (.cells #[.slice none 0 0, .int .u64 0] 25) = W0 := ⟨_, rfl⟩
 try rw [hW0]
 obtain ⟨hb0, -, -, hp0, hz0_⟩ := box2 hW0
 clear hW0
 have hz0 : w.heap.size < W0.heap.size := by rw [hz0_]; exact Nat.lt_succ_self _
 clear hz0_
 have hreW := (hre0.below hb0).any
 refine nx (hK1 _ _ ?_)
 refine Fact.sq fun K2 hK2 => ?_
 refine rg ?_
 have b9 := hf.b 9
 have b10 := hf.b 10
 have b8 := hf.b 8
 have b11 := hf.b 11
 have b12 := hf.b 12
 refine fp fun K Z => ?_
 go_simp
 apply Z.out; clear Z K
 refine fp fun K Z => ?_
 go_simp
 go_at_call 62; refine (rchk38 W0 es W0.heap.size v (Nat.le_refl _) hreW (by omega)).mono ?_; rintro e w1 ⟨n1, rfl, hb1⟩
 try dsimp only
 apply Z.out; clear Z K
 refine fp fun K Z => ?_
 go_simp
 apply Z.out; clear Z K
 refine fp fun K Z => ?_
 go_simp
 apply Z.out; clear Z K
 refine fp fun K Z => ?_
 go_simp
 apply Z.out; clear Z K
 refine fp fun K Z => ?_
 go_simp
 apply Z.out; clear Z K
 refine fp fun K Z => ?_
 go_simp
 apply Z.out; clear Z K
 refine Fact.z hf fun fr1 hf1 hT => ?_
 have hKp : _ ∧ _ ∧ _ := ⟨hT 0, hT 2, hT 5⟩
 simp (decide := true) only [Fact.G, hf.size, reduceIte, s0, s2] at hKp
 replace hf := hf1; clear hT hf1 s0 s2 b9 b10 b8 b11 b12
 obtain ⟨s0, s2, s5⟩ := hKp
 have hp1 := (hb1.block _ (heap_lt hp0)).trans hp0
 clear hreW hp0
 have hbw := hb0.trans (hb1.mono hb0.size)
 have hw1 : w.heap.size < w1.heap.size := by have := hb1.size; omega
 refine nx (hK2 _ _ ?_)
 refine Fact.sq fun K3 hK3 => ?_
 refine Fact.sq fun K4 hK4 => ?_
 refine rg ?_
 have b13 := hf.b 13
 refine fp fun K Z => ?_
 go_simp
 apply Z.out; clear Z K
 refine fp fun K Z => ?_
 go_simp
 apply Z.out; clear Z K
 refine Fact.z hf fun fr1 hf1 hT => ?_
 have hKp : _ ∧ _ ∧ _ ∧ _ := ⟨hT 0, hT 2, hT 5, hT 14⟩
 simp (decide := true) only [Fact.G, hf.size, reduceIte, s0, s2, s5] at hKp
 replace hf := hf1; clear hT hf1 s0 s2 s5 b13
 obtain ⟨s0, s2, s5, s14⟩ := hKp
 refine nx (hK4 _ _ ?_)
 have q14 : fr1.tmps[14]? = some (.bool true) := by rw [s14]; have := HC.out; simp; omega
 clear s14
 have s14 := q14; clear q14
 refine Fact.cond_t s14 ?_
 have z0 := cell_of_row _ _ 0 _ 25 (0, 0) hp1; have z1 := cell_of_row _ _ 1 _ 25 (0, 0) hp1; have fz0 := frozen_of (i := 0) hp1; have fz1 := frozen_of (i := 1) hp1
 simp at z0 z1
 refine Fact.sq fun K5 hK5 => ?_
 refine rg ?_
 have b15 := hf.b 15
 have b16 := hf.b 16
 refine fp fun K Z => ?_
 go_simp
 apply Z.out; clear Z K
 refine fp fun K Z => ?_
 go_simp
 apply Z.out; clear Z K
 refine fp fun K Z => ?_
 go_simp
 apply Z.out; clear Z K
 refine fp fun K Z => ?_
 go_simp
 apply Z.out; clear Z K
 refine Fact.z hf fun fr1 hf1 hT => ?_
 have hKp : _ ∧ _ := ⟨hT 2, hT 3⟩
 simp (decide := true) only [Fact.G, hf.size, reduceIte, s2] at hKp
 replace hf := hf1; clear hT hf1 s0 s2 s5 s14 b15 b16
 obtain ⟨s2, s3⟩ := hKp
 refine nx (hK5 _ _ ?_)
 refine wp_ret ?_
 refine Fact.then_ret ?_
 exact ret_ct rfl hf s2 s3 (set_block (set_block hp1 _) _) Tryd.underlying25 rfl (by kernel_rfl) ⟨rfl, (hbw.setCell (p := ⟨w.heap.size, 0, none⟩) (Nat.le_refl _) _).setCell (p := ⟨w.heap.size, 1, none⟩) (Nat.le_refl _) _⟩
set_option maxHeartbeats 4000000 in
set_option maxRecDepth 100000 in
theorem rbuild_n (w : World) (es : List Ent) (B : Nat) (v : Value) (hB : B ≤ w.heap.size) (hre : RE w B v es) (hlen : es.length ≤ 30) (hes : ∀ e ∈ es, okE e) (hchk : chkN es = 0) (h0 : es.length = 0) : Calls Tryd.prog 40 #[v] w fun e w1 => ∃ sv, e = .returned (.tuple #[.agg #[sv, .int .u64 0], .int .i64 0]) ∧ RS w1 sv [zeroS] ∧ Below w.heap.size w w1 := by
 refine calls_of_wp Tryd.func40 rfl ?_
 refine Fact.en 37 fun fr hf hT => ?_
 have s0 := hT 0 _ rfl
 clear hT
 have hre0 := hre.any
 clear hre
 have HES := Lib.hid hes; have HC := Lib.hid hchk; clear hes hchk
 refine Fact.sq fun K1 hK1 => ?_
 refine rg ?_
 refine fp fun K Z => ?_
 go_simp
 apply Z.out; clear Z K
 refine fp fun K Z => ?_
 go_simp
 apply Z.out; clear Z K
 refine Fact.z hf fun fr1 hf1 hT => ?_
 have hKp : _ ∧ _ := ⟨hT 0, hT 2⟩
 simp (decide := true) only [Fact.G, hf.size, reduceIte, s0] at hKp
 replace hf := hf1; clear hT hf1 s0
 obtain ⟨s0, s2⟩ := hKp
 obtain ⟨W0, hW0⟩ : ∃ W0, w.alloc (.cells #[.slice none 0 0, .int .u64 0] 25) = W0 := ⟨_, rfl⟩
 try rw [hW0]
 obtain ⟨hb0, -, -, hp0, hz0_⟩ := box2 hW0
 clear hW0
 have hz0 : w.heap.size < W0.heap.size := by rw [hz0_]; exact Nat.lt_succ_self _
 clear hz0_
 have hreW := (hre0.below hb0).any
 refine nx (hK1 _ _ ?_)
 refine Fact.sq fun K2 hK2 => ?_
 refine rg ?_
 have b9 := hf.b 9
 have b10 := hf.b 10
 have b8 := hf.b 8
 have b11 := hf.b 11
 have b12 := hf.b 12
 refine fp fun K Z => ?_
 go_simp
 apply Z.out; clear Z K
 refine fp fun K Z => ?_
 go_simp
 go_at_call 62; refine (rchk38 W0 es W0.heap.size v (Nat.le_refl _) hreW (by omega)).mono ?_; rintro e w1 ⟨n1, rfl, hb1⟩
 rw [HC.out]
 try dsimp only
 apply Z.out; clear Z K
 refine fp fun K Z => ?_
 go_simp
 apply Z.out; clear Z K
 refine fp fun K Z => ?_
 go_simp
 apply Z.out; clear Z K
 refine fp fun K Z => ?_
 go_simp
 apply Z.out; clear Z K
 refine fp fun K Z => ?_
 go_simp
 apply Z.out; clear Z K
 refine fp fun K Z => ?_
 go_simp
 apply Z.out; clear Z K
 refine Fact.z hf fun fr1 hf1 hT => ?_
 have hKp : _ ∧ _ ∧ _ := ⟨hT 0, hT 2, hT 5⟩
 simp (decide := true) only [Fact.G, hf.size, reduceIte, s0, s2] at hKp
 replace hf := hf1; clear hT hf1 s0 s2 b9 b10 b8 b11 b12
 obtain ⟨s0, s2, s5⟩ := hKp
 have hp1 := (hb1.block _ (heap_lt hp0)).trans hp0
 clear hreW hp0
 have hbw := hb0.trans (hb1.mono hb0.size)
 have hw1 : w.heap.size < w1.heap.size := by have := hb1.size; omega
 refine nx (hK2 _ _ ?_)
 refine Fact.sq fun K3 hK3 => ?_
 refine Fact.sq fun K4 hK4 => ?_
 refine rg ?_
 have b13 := hf.b 13
 refine fp fun K Z => ?_
 go_simp
 apply Z.out; clear Z K
 refine fp fun K Z => ?_
 go_simp
 apply Z.out; clear Z K
 refine Fact.z hf fun fr1 hf1 hT => ?_
 have hKp : _ ∧ _ ∧ _ ∧ _ := ⟨hT 0, hT 2, hT 5, hT 14⟩
 simp (decide := true) only [Fact.G, hf.size, reduceIte, s0, s2, s5] at hKp
 replace hf := hf1; clear hT hf1 s0 s2 s5 b13
 obtain ⟨s0, s2, s5, s14⟩ := hKp
 refine nx (hK4 _ _ ?_)
 refine Fact.cond_f s14 ?_
 obtain rfl : es = [] := List.eq_nil_of_length_eq_zero h0
 obtain ⟨A, cc, rfl, hcc⟩ := hre0.form
 refine wp_skip ?_
 refine nx (hK3 _ _ ?_)
 refine Fact.sq fun K5 hK5 => ?_
 refine Fact.sq fun K6 hK6 => ?_
 refine rg ?_
 have b17 := hf.b 17
 have b18 := hf.b 18
 refine fp fun K Z => ?_
 go_simp
 apply Z.out; clear Z K
 refine fp fun K Z => ?_
 go_simp
 apply Z.out; clear Z K
 refine fp fun K Z => ?_
 go_simp
 apply Z.out; clear Z K
 refine Fact.z hf fun fr1 hf1 hT => ?_
 have hKp : _ ∧ _ ∧ _ := ⟨hT 0, hT 2, hT 19⟩
 simp (decide := true) only [Fact.G, hf.size, reduceIte, s0, s2] at hKp
 replace hf := hf1; clear hT hf1 s0 s2 s5 s14 b17 b18
 obtain ⟨s0, s2, s19⟩ := hKp
 refine nx (hK6 _ _ ?_)
 refine Fact.cond_t s19 ?_
 have z0 := cell_of_row _ _ 0 _ 25 (0, 0) hp1; have z1 := cell_of_row _ _ 1 _ 25 (0, 0) hp1; have fz0 := frozen_of (i := 0) hp1; have fz1 := frozen_of (i := 1) hp1
 simp at z0 z1
 refine Fact.sq fun K7 hK7 => ?_
 refine rg ?_
 have b20 := hf.b 20
 have b21 := hf.b 21
 have b22 := hf.b 22
 refine fp fun K Z => ?_
 go_simp
 apply Z.out; clear Z K
 refine fp fun K Z => ?_
 go_simp
 apply Z.out; clear Z K
 refine fp fun K Z => ?_
 go_simp
 apply Z.out; clear Z K
 refine fp fun K Z => ?_
 go_simp
 apply Z.out; clear Z K
 refine fp fun K Z => ?_
 go_simp
 apply Z.out; clear Z K
 refine Fact.z hf fun fr1 hf1 hT => ?_
 have hKp : _ ∧ _ := ⟨hT 2, hT 3⟩
 simp (decide := true) only [Fact.G, hf.size, reduceIte, s2] at hKp
 replace hf := hf1; clear hT hf1 s0 s2 s19 b20 b21 b22
 obtain ⟨s2, s3⟩ := hKp
 refine nx (hK7 _ _ ?_)
 refine wp_ret ?_
 refine Fact.then_ret ?_
 obtain ⟨Wz, hWz⟩ : ∃ x, (w1.setCell ⟨w.heap.size, 0, none⟩ (.slice (some ⟨w1.heap.size, 0, none⟩) 1 1)).setCell ⟨w.heap.size, 1, none⟩ (.int .u64 0) = x := ⟨_, rfl⟩
 have hzz : Wz.heap.size = w1.heap.size := by rw [← hWz]; simp [World.setCell]
 have hpz := set_block (i := 1) (set_block (i := 0) hp1 (.slice (some ⟨w1.heap.size, 0, none⟩) 1 1)) (.int .u64 0)
 have hbz := (hbw.setCell (p := ⟨w.heap.size, 0, none⟩) (Nat.le_refl _) (.slice (some ⟨w1.heap.size, 0, none⟩) 1 1)).setCell (p := ⟨w.heap.size, 1, none⟩) (Nat.le_refl _) (.int .u64 0)
 rw [hWz] at hpz hbz
 rw [hWz]
 obtain ⟨hbL, hrL⟩ := RS.lit (w := Wz) (A := #[.slice none 0 0, .bool false, .int .u64 0]) (t := 64) rfl [(.slice none 0 0, zeroS)] rfl (fun x hx => by simp at hx; subst hx; exact RA.nil_)
 rw [hzz] at hrL
 exact ret_ct rfl hf s2 s3 ((hbL.block _ (heap_lt hpz)).trans hpz) Tryd.underlying25 rfl (by kernel_rfl) ⟨_, rfl, hrL, hbz.trans (hbL.mono hbz.size)⟩
set_option maxHeartbeats 4000000 in
set_option maxRecDepth 100000 in
theorem rbuild_g (w : World) (es : List Ent) (B : Nat) (v : Value) (hB : B ≤ w.heap.size) (hre : RE w B v es) (hlen : es.length ≤ 30) (hes : ∀ e ∈ es, okE e) (hchk : chkN es = 0) (h0 : 0 < es.length) (hN : (refS 256 [] (es.map wvE) 0 (leastV (es.map wvE))).1.length ≤ 10000) : Calls Tryd.prog 40 #[v] w fun e w1 => ∃ sv, e = .returned (.tuple #[.agg #[sv, .int .u64 (leastV (es.map wvE) : Nat)], .int .i64 0]) ∧ RS w1 sv (refS 256 [] (es.map wvE) 0 (leastV (es.map wvE))).1 ∧ Below w.heap.size w w1 := by
 refine calls_of_wp Tryd.func40 rfl ?_
 refine Fact.en 37 fun fr hf hT => ?_
 have s0 := hT 0 _ rfl
 clear hT
 have hre0 := hre.any
 clear hre
 have HES := Lib.hid hes; have HC := Lib.hid hchk; clear hes hchk
 refine Fact.sq fun K1 hK1 => ?_
 refine rg ?_
 refine fp fun K Z => ?_
 go_simp
 apply Z.out; clear Z K
 refine fp fun K Z => ?_
 go_simp
 apply Z.out; clear Z K
 refine Fact.z hf fun fr1 hf1 hT => ?_
 have hKp : _ ∧ _ := ⟨hT 0, hT 2⟩
 simp (decide := true) only [Fact.G, hf.size, reduceIte, s0] at hKp
 replace hf := hf1; clear hT hf1 s0
 obtain ⟨s0, s2⟩ := hKp
 obtain ⟨W0, hW0⟩ : ∃ W0, w.alloc (.cells #[.slice none 0 0, .int .u64 0] 25) = W0 := ⟨_, rfl⟩
 try rw [hW0]
 obtain ⟨hb0, -, -, hp0, hz0_⟩ := box2 hW0
 clear hW0
 have hz0 : w.heap.size < W0.heap.size := by rw [hz0_]; exact Nat.lt_succ_self _
 clear hz0_
 have hreW := (hre0.below hb0).any
 refine nx (hK1 _ _ ?_)
 refine Fact.sq fun K2 hK2 => ?_
 refine rg ?_
 have b9 := hf.b 9
 have b10 := hf.b 10
 have b8 := hf.b 8
 have b11 := hf.b 11
 have b12 := hf.b 12
 refine fp fun K Z => ?_
 go_simp
 apply Z.out; clear Z K
 refine fp fun K Z => ?_
 go_simp
 go_at_call 62; refine (rchk38 W0 es W0.heap.size v (Nat.le_refl _) hreW (by omega)).mono ?_; rintro e w1 ⟨n1, rfl, hb1⟩
 rw [HC.out]
 try dsimp only
 apply Z.out; clear Z K
 refine fp fun K Z => ?_
 go_simp
 apply Z.out; clear Z K
 refine fp fun K Z => ?_
 go_simp
 apply Z.out; clear Z K
 refine fp fun K Z => ?_
 go_simp
 apply Z.out; clear Z K
 refine fp fun K Z => ?_
 go_simp
 apply Z.out; clear Z K
 refine fp fun K Z => ?_
 go_simp
 apply Z.out; clear Z K
 refine Fact.z hf fun fr1 hf1 hT => ?_
 have hKp : _ ∧ _ ∧ _ := ⟨hT 0, hT 2, hT 5⟩
 simp (decide := true) only [Fact.G, hf.size, reduceIte, s0, s2] at hKp
 replace hf := hf1; clear hT hf1 s0 s2 b9 b10 b8 b11 b12
 obtain ⟨s0, s2, s5⟩ := hKp
 have hp1 := (hb1.block _ (heap_lt hp0)).trans hp0
 clear hreW hp0
 have hbw := hb0.trans (hb1.mono hb0.size)
 have hw1 : w.heap.size < w1.heap.size := by have := hb1.size; omega
 refine nx (hK2 _ _ ?_)
 refine Fact.sq fun K3 hK3 => ?_
 refine Fact.sq fun K4 hK4 => ?_
 refine rg ?_
 have b13 := hf.b 13
 refine fp fun K Z => ?_
 go_simp
 apply Z.out; clear Z K
 refine fp fun K Z => ?_
 go_simp
 apply Z.out; clear Z K
 refine Fact.z hf fun fr1 hf1 hT => ?_
 have hKp : _ ∧ _ ∧ _ ∧ _ := ⟨hT 0, hT 2, hT 5, hT 14⟩
 simp (decide := true) only [Fact.G, hf.size, reduceIte, s0, s2, s5] at hKp
 replace hf := hf1; clear hT hf1 s0 s2 s5 b13
 obtain ⟨s0, s2, s5, s14⟩ := hKp
 refine nx (hK4 _ _ ?_)
 refine Fact.cond_f s14 ?_
 obtain ⟨A, cc, rfl, hcc⟩ := hre0.form
 have q2 : (((es.length : Nat) : Int) == 0) = false := beq_false_of_ne (by omega)
 refine wp_skip ?_
 refine nx (hK3 _ _ ?_)
 refine Fact.sq fun K5 hK5 => ?_
 refine Fact.sq fun K6 hK6 => ?_
 refine rg ?_
 have b17 := hf.b 17
 have b18 := hf.b 18
 refine fp fun K Z => ?_
 go_simp
 apply Z.out; clear Z K
 refine fp fun K Z => ?_
 go_simp
 apply Z.out; clear Z K
 refine fp fun K Z => ?_
 go_simp
 apply Z.out; clear Z K
 refine Fact.z hf fun fr1 hf1 hT => ?_
 have hKp : _ ∧ _ ∧ _ := ⟨hT 0, hT 2, hT 19⟩
 simp (decide := true) only [Fact.G, hf.size, reduceIte, s0, s2] at hKp
 replace hf := hf1; clear hT hf1 s0 s2 s5 s14 b17 b18
 obtain ⟨s0, s2, s19⟩ := hKp
 refine nx (hK6 _ _ ?_)
 refine Fact.cond_f s19 ?_
 clear q2
 refine wp_skip ?_
 refine nx (hK5 _ _ ?_)
 refine Fact.sq fun K7 hK7 => ?_
 refine rg ?_
 have b23 := hf.b 23
 have b24 := hf.b 24
 refine fp fun K Z => ?_
 go_simp
 apply Z.out; clear Z K
 refine fp fun K Z => ?_
 go_simp
 apply Z.out; clear Z K
 refine fp fun K Z => ?_
 go_simp
 apply Z.out; clear Z K
 refine Fact.z hf fun fr1 hf1 hT => ?_
 have hKp : _ ∧ _ ∧ _ := ⟨hT 0, hT 2, hT 6⟩
 simp (decide := true) only [Fact.G, hf.size, reduceIte, s0, s2] at hKp
 replace hf := hf1; clear hT hf1 s0 s2 s19 b23 b24
 obtain ⟨s0, s2, s6⟩ := hKp
 obtain ⟨W2, hW2⟩ : ∃ W0, w1.alloc (.cells #[.slice none 0 0] 132) = W0 := ⟨_, rfl⟩
 try rw [hW2]
 obtain ⟨hb2, -, hq2, hz2_⟩ := box1 hW2
 clear hW2
 have hz2 : w1.heap.size < W2.heap.size := by rw [hz2_]; exact Nat.lt_succ_self _
 clear hz2_
 have hre2 := (hre0.below (hbw.trans (hb2.mono (Nat.le_of_lt hw1)))).any
 have hp2 := (hb2.block _ (heap_lt hp1)).trans hp1
 have hbw2 := hbw.trans (hb2.mono (Nat.le_of_lt hw1))
 clear hp1 hbw
 obtain ⟨n, hn⟩ : ∃ x, leastV (es.map wvE) = x := ⟨_, rfl⟩
 have hnl : ∀ e ∈ es, n ≤ valE e := fun x hx => by rw [← hn]; exact leastV_le (List.mem_map_of_mem hx)
 rw [hn] at hN
 have HN := Lib.hid hn; have HNL := Lib.hid hnl; have HNN := Lib.hid hN; clear hn hnl hN
 refine nx (hK7 _ _ ?_)
 refine Fact.sq fun K8 hK8 => ?_
 refine rg ?_
 have b25 := hf.b 25
 have b26 := hf.b 26
 refine fp fun K Z => ?_
 go_simp
 apply Z.out; clear Z K
 refine fp fun K Z => ?_
 go_simp
 go_at_call 63; refine (least39 W2 es _ _ (Nat.le_refl _) hre2 HES.out h0 (by omega)).mono ?_; rintro e w3 ⟨rfl, hb3⟩
 rw [HN.out]
 try dsimp only
 apply Z.out; clear Z K
 refine fp fun K Z => ?_
 go_simp
 apply Z.out; clear Z K
 refine Fact.z hf fun fr1 hf1 hT => ?_
 have hKp : _ ∧ _ ∧ _ ∧ _ := ⟨hT 0, hT 2, hT 6, hT 7⟩
 simp (decide := true) only [Fact.G, hf.size, reduceIte, s0, s2, s6] at hKp
 replace hf := hf1; clear hT hf1 s0 s2 s6 b25 b26
 obtain ⟨s0, s2, s6, s7⟩ := hKp
 have hq3 := (hb3.block _ (heap_lt hq2)).trans hq2
 have hp3 := (hb3.block _ (heap_lt hp2)).trans hp2
 have hre3 := (hre2.below hb3).any
 have hbw3 := hbw2.trans (hb3.mono hbw2.size)
 clear hre2 hq2 hp2 hbw2
 have hms : MS w3 w.heap.size w1.heap.size (.slice none 0 0) (fun _ => False) [] := ⟨hq3, ⟨[], World.ownsRow_nil _ _ _ _, fun i s h => by simp at h⟩, (fun h => by cases h), (fun h => h), (fun k h => by cases h)⟩
 have hz3 : w.heap.size < w3.heap.size := heap_lt hp3
 obtain ⟨b0, off0, hA0, hlt0⟩ : ∃ b off, A = some ⟨b, off, none⟩ ∧ b < w.heap.size := by obtain ⟨e0, he0⟩ : ∃ e, es[0]? = some e := ⟨_, List.getElem?_eq_getElem h0⟩; obtain ⟨b, off, hA, _, hb9, _⟩ := hre0.at_ he0; exact ⟨b, off, hA, hb9⟩
 have hbl : ∀ k, (.slice A es.length cc : Value).ownBlock = some k → k < w.heap.size := fun k hk => by subst hA0; have hk2 : some b0 = some k := hk; injection hk2 with hk3; omega
 have hwds : ∀ e ∈ es, 0 ≤ e.word.size ∧ e.word.size < 256 + 0 := fun e he => by have := okW_size ((chk_all es none HC.out).1 e he); omega
 clear hA0
 refine nx (hK8 _ _ ?_)
 refine Fact.sq fun K9 hK9 => ?_
 refine rg ?_
 have b27 := hf.b 27
 have b28 := hf.b 28
 have b29 := hf.b 29
 refine fp fun K Z => ?_
 go_simp
 apply Z.out; clear Z K
 refine fp fun K Z => ?_
 go_simp
 apply Z.out; clear Z K
 refine fp fun K Z => ?_
 go_simp
 apply Z.out; clear Z K
 refine fp fun K Z => ?_
 go_simp
 go_at_call 64; refine (state_any 256 w3 w.heap.size w1.heap.size (.slice none 0 0) (fun _ => False) [] es (.slice A es.length cc) 0 n hms hbw3.size hre3 (fun k hk => ⟨by have := hbl k hk; omega, fun h => by cases h⟩) HES.out (by omega) hwds (by omega) HNL.out (Nat.le_trans HNN.out (by omega)) (fun s hs => by cases hs) h0).mono ?_; rintro e w4 ⟨rfl, ⟨v4, B4, hm4, hB4, hv4⟩, hb4⟩
 try dsimp only
 apply Z.out; clear Z K
 refine Fact.z hf fun fr1 hf1 hT => ?_
 have hKp : _ ∧ _ ∧ _ := ⟨hT 2, hT 6, hT 7⟩
 simp (decide := true) only [Fact.G, reduceIte, s2, s6, s7] at hKp
 replace hf := hf1; clear hT hf1 s0 s2 s6 s7 b27 b28 b29
 obtain ⟨s2, s6, s7⟩ := hKp
 have hp4 := hb4.heap hp3 (fun h => by rcases h with h | h; omega; cases h)
 have hbw4 : Below w.heap.size w w4 := hbw3.trans (But.below hb4 hbw3.size (fun k h => by rcases h with h | h; omega; cases h))
 have hq4 := hm4.cell
 obtain ⟨A4, c4, hv4f, _⟩ := hm4.form
 subst hv4f
 refine nx (hK9 _ _ ?_)
 have z0 := cell_of_row _ _ 0 _ 25 (0, 0) hp4; have z1 := cell_of_row _ _ 1 _ 25 (0, 0) hp4; have fz0 := frozen_of (i := 0) hp4; have fz1 := frozen_of (i := 1) hp4
 simp at z0 z1
 refine Fact.sq fun K10 hK10 => ?_
 refine rg ?_
 have b31 := hf.b 31
 have b32 := hf.b 32
 have b33 := hf.b 33
 have b34 := hf.b 34
 have b35 := hf.b 35
 have b36 := hf.b 36
 refine fp fun K Z => ?_
 go_simp
 apply Z.out; clear Z K
 refine fp fun K Z => ?_
 go_simp
 apply Z.out; clear Z K
 refine fp fun K Z => ?_
 go_simp
 apply Z.out; clear Z K
 refine fp fun K Z => ?_
 go_simp
 apply Z.out; clear Z K
 refine fp fun K Z => ?_
 go_simp
 apply Z.out; clear Z K
 refine fp fun K Z => ?_
 go_simp
 apply Z.out; clear Z K
 refine fp fun K Z => ?_
 go_simp
 apply Z.out; clear Z K
 refine fp fun K Z => ?_
 go_simp
 apply Z.out; clear Z K
 refine Fact.z hf fun fr1 hf1 hT => ?_
 have hKp : _ ∧ _ := ⟨hT 2, hT 3⟩
 simp (decide := true) only [Fact.G, hf.size, reduceIte, s2] at hKp
 replace hf := hf1; clear hT hf1 s2 s6 s7 b31 b32 b33 b34 b35 b36
 obtain ⟨s2, s3⟩ := hKp
 refine nx (hK10 _ _ ?_)
 refine wp_ret ?_
 have hS : But (fun k => k = w.heap.size) w4 _ := (But.setCell (S := fun k => k = w.heap.size) (p := ⟨w.heap.size, 0, none⟩) rfl (.slice A4 (refS 256 [] (es.map wvE) 0 n).1.length c4)).trans (But.setCell (S := fun k => k = w.heap.size) (p := ⟨w.heap.size, 1, none⟩) rfl (.int .u64 n))
 have hm5 := hm4.but hS (fun h => by omega) (fun k hk h => by rcases hv4 with h2 | ⟨k2, h2, h3⟩; (rw [h2] at hk; cases hk); (rw [hk] at h2; injection h2 with h2; omega)) (fun k hk h => by rcases (hB4 k hk).2 with h2 | h2; exact h2; omega)
 rw [HN.out]
 exact ret_ct rfl hf s2 s3 (set_block (set_block hp4 _) _) Tryd.underlying25 rfl (by kernel_rfl) ⟨_, rfl, hm5.rs, (hbw4.setCell (p := ⟨w.heap.size, 0, none⟩) (Nat.le_refl _) _).setCell (p := ⟨w.heap.size, 1, none⟩) (Nat.le_refl _) _⟩
theorem rbuild18 (w : World) (es : List Ent) (B : Nat) (v : Value) (hB : B ≤ w.heap.size) (hre : RE w B v es) (hlen : es.length ≤ 30) (hes : ∀ e ∈ es, okE e) :
    Calls Tryd.prog 40 #[v] w fun e w1 => ∃ sv, e = .returned (.tuple #[.agg #[sv, .int .u64 (buildF es).init], .int .i64 (chkN es : Nat)]) ∧ RS w1 sv (buildF es).states ∧ Below w.heap.size w w1 := by
  unfold buildF
  by_cases hc : chkN es = 0
  · rw [if_pos hc, hc]
    obtain ⟨c1, c2, _⟩ := chk_all es none hc
    have hlt : AllLt 256 (es.map wvE) := fun e he => by
      obtain ⟨x, hx, rfl⟩ := List.mem_map.1 he
      have := okW_size (c1 x hx)
      show (wl x.word).length < 256
      rw [wl_length]; omega
    have hbr := build_ref hlt c2
    have hfew := build_few (l := es.map wvE) (by rw [List.length_map]; exact hlen) (fun e he => by
      obtain ⟨x, hx, rfl⟩ := List.mem_map.1 he
      refine ⟨wl_lt x.word, ?_, ?_⟩
      · show (wl x.word).length ≤ 255
        have := okW_size (c1 x hx)
        rw [wl_length]; omega
      · have := valE_lt (hes x hx); show valE x < _; omega)
    rw [hbr] at hfew ⊢
    cases es with
    | nil => exact rbuild_n w [] B v hB hre hlen hes hc rfl
    | cons e es => exact rbuild_g w (e :: es) B v hB hre hlen hes hc (by simp) hfew
  · rw [if_neg hc]
    refine (rbuild_b w es B v hB hre hlen hes hc).mono ?_
    rintro e w1 ⟨rfl, h⟩
    exact ⟨_, rfl, RS.nil_ _, h⟩

end Dw
end Go.Proofs.YtdkbgbdgmihlmaaDoor
