/- cedillaref13: Of. -/
import Derived.Test.YtdkbgbdgmihlmaaDoorDRB
import Derived.Test.YtdkbgbdgmihlmaaDoorPBackF
import Derived.Test.YtdkbgbdgmihlmaaDoorTools
import Derived.Test.YtdkbgbdgmihlmaaDoorQN
import Derived.Test.YtdkbgbdgmihlmaaDoorPWorks
import Derived.Test.YtdkbgbdgmihlmaaDoorPFormF
namespace Go.Proofs.YtdkbgbdgmihlmaaDoor
open Go.RowKit
set_option linter.unusedSimpArgs false
set_option linter.unusedVariables false
set_option linter.unnecessarySimpa false
namespace Dw
set_option maxHeartbeats 4000000 in
set_option maxRecDepth 100000 in
theorem of19 (w : World) (ds : List Dra) (dv : Value) (hrd : RDs w w.heap.size dv ds) (hok : ∀ d ∈ ds, okD d) : Calls Tryd.prog 19 #[dv, .int .i64 30] w fun e w1 => ∃ sv, e = .returned (.tuple #[.agg #[sv, .int .u64 (buildF (listOf ds 30)).init], .int .i64 ((listOf ds 30).length : Nat)]) ∧ RS w1 sv (buildF (listOf ds 30)).states ∧ Below w.heap.size w w1 := by
 refine calls_of_wp Tryd.func19 rfl ?_
 refine Fact.en 20 fun fr hf hT => ?_
 have s0 := hT 0 _ rfl
 have s1 := hT 1 _ rfl
 clear hT
 have hll := (list_ok (n := 30) hok).2.2
 have hlo := (list_ok (n := 30) hok).1
 obtain ⟨own, hown⟩ : ∃ x, listOf ds 30 = x := ⟨_, rfl⟩
 rw [hown] at hll hlo
 have HOWN := Lib.hid hown; have HLO := Lib.hid hlo; clear hown hlo
 refine Fact.sq fun K1 hK1 => ?_
 refine rg ?_
 refine fp fun K Z => ?_
 go_simp
 apply Z.out; clear Z K
 refine fp fun K Z => ?_
 go_simp
 apply Z.out; clear Z K
 refine Fact.z hf fun fr1 hf1 hT => ?_
 have hKp : _ ∧ _ ∧ _ := ⟨hT 0, hT 1, hT 4⟩
 simp (decide := true) only [Fact.G, hf.size, reduceIte, s0, s1] at hKp
 replace hf := hf1; clear hT hf1 s0 s1
 obtain ⟨s0, s1, s4⟩ := hKp
 obtain ⟨W0, hW0⟩ : ∃ W0, w.alloc (.cells #[.slice none 0 0, .int .u64 0] 25) = W0 := ⟨_, rfl⟩
 try rw [hW0]
 obtain ⟨hb0, -, -, hq0, -⟩ := box2 hW0
 clear hW0
 have hrd0 := (hrd.below hb0).more hb0.size
 refine nx (hK1 _ _ ?_)
 refine Fact.sq fun K2 hK2 => ?_
 refine rg ?_
 have b9 := hf.b 9
 have b10 := hf.b 10
 have b11 := hf.b 11
 refine fp fun K Z => ?_
 go_simp
 apply Z.out; clear Z K
 refine fp fun K Z => ?_
 go_simp
 apply Z.out; clear Z K
 refine fp fun K Z => ?_
 go_simp
 go_at_call 39; refine (list_ W0 ds 30 (by omega) dv hrd0 hok).mono ?_; rintro e w1 ⟨v1, rfl, how1, hb1⟩
 rw [HOWN.out] at how1
 try dsimp only
 apply Z.out; clear Z K
 refine fp fun K Z => ?_
 go_simp
 apply Z.out; clear Z K
 refine Fact.z hf fun fr1 hf1 hT => ?_
 have hKp : _ ∧ _ := ⟨hT 4, hT 6⟩
 simp (decide := true) only [Fact.G, hf.size, reduceIte, s4] at hKp
 replace hf := hf1; clear hT hf1 s0 s1 s4 b9 b10 b11
 obtain ⟨s4, s6⟩ := hKp
 replace hq0 := (hb1.block _ (heap_lt hq0)).trans hq0
 have hre1 := OE.re (es := own) how1
 have hbt := hb0.trans (hb1.mono hb0.size)
 obtain ⟨A1, c1, hv1, hc1⟩ := OE.form (es := own) how1
 subst hv1
 clear hb0 hb1 how1 hrd0
 refine nx (hK2 _ _ ?_)
 refine Fact.sq fun K3 hK3 => ?_
 refine rg ?_
 have b13 := hf.b 13
 have b14 := hf.b 14
 have b12 := hf.b 12
 have b15 := hf.b 15
 have b16 := hf.b 16
 have b7 := hf.b 7
 refine fp fun K Z => ?_
 go_simp
 apply Z.out; clear Z K
 refine fp fun K Z => ?_
 go_simp
 go_at_call 40; refine (rbuild18 w1 own _ _ (Nat.le_refl _) hre1 hll (fun e he => (HLO.out e he).1)).mono ?_; rintro e w2 ⟨sv, rfl, hr2, hb2⟩
 obtain ⟨A2, c2, hsv, _⟩ := hr2.form
 subst hsv
 try dsimp only
 apply Z.out; clear Z K
 refine fp fun K Z => ?_
 go_simp
 apply Z.out; clear Z K
 refine fp fun K Z => ?_
 go_simp
 apply Z.out; clear Z K
 refine fp fun K Z => ?_
 go_simp
 apply Z.out; clear Z K
 refine fp fun K Z => ?_
 go_simp
 apply Z.out; clear Z K
 refine fp fun K Z => ?_
 go_simp
 apply Z.out; clear Z K
 refine fp fun K Z => ?_
 go_simp
 apply Z.out; clear Z K
 refine Fact.z hf fun fr1 hf1 hT => ?_
 have hKp : _ ∧ _ ∧ _ := ⟨hT 4, hT 6, hT 7⟩
 simp (decide := true) only [Fact.G, hf.size, reduceIte, s4, s6] at hKp
 replace hf := hf1; clear hT hf1 s4 s6 b13 b14 b12 b15 b16 b7
 obtain ⟨s4, s6, s7⟩ := hKp
 replace hq0 := (hb2.block _ (heap_lt hq0)).trans hq0
 replace hbt := hbt.trans (hb2.mono hbt.size)
 obtain ⟨W3, hW3⟩ : ∃ W0, w2.alloc (.cells #[.slice A2 (buildF own).states.length c2, .int .u64 (buildF own).init] 25) = W0 := ⟨_, rfl⟩
 try rw [hW3]
 obtain ⟨hb3, d0, d1, -, -⟩ := box2 hW3
 clear hW3
 replace hq0 := (hb3.block _ (heap_lt hq0)).trans hq0
 replace hbt := hbt.trans (hb3.mono hbt.size)
 replace hr2 := hr2.later hb3
 have i0 := cell_of_row _ _ 0 _ 25 (0, 0) hq0; have i1 := cell_of_row _ _ 1 _ 25 (0, 0) hq0; have fi0 := frozen_of (i := 0) hq0; have fi1 := frozen_of (i := 1) hq0
 simp at i0 i1
 refine nx (hK3 _ _ ?_)
 refine Fact.sq fun K4 hK4 => ?_
 refine rg ?_
 have b17 := hf.b 17
 have b18 := hf.b 18
 have b19 := hf.b 19
 refine fp fun K Z => ?_
 go_simp
 apply Z.out; clear Z K
 refine fp fun K Z => ?_
 go_simp
 apply Z.out; clear Z K
 refine fp fun K Z => ?_
 go_simp
 apply Z.out; clear Z K
 refine fp fun K Z => ?_
 go_simp
 apply Z.out; clear Z K
 refine fp fun K Z => ?_
 go_simp
 apply Z.out; clear Z K
 refine Fact.z hf fun fr1 hf1 hT => ?_
 have hKp : _ ∧ _ := ⟨hT 4, hT 5⟩
 simp (decide := true) only [Fact.G, hf.size, reduceIte, s4] at hKp
 replace hf := hf1; clear hT hf1 s4 s6 s7 b17 b18 b19
 obtain ⟨s4, s5⟩ := hKp
 refine nx (hK4 _ _ ?_)
 refine wp_ret ?_
 have hbb : But (fun k => k = w.heap.size) W3 ((W3.setCell ⟨w.heap.size, 0, none⟩ (.slice A2 (buildF own).states.length c2)).setCell ⟨w.heap.size, 1, none⟩ (.int .u64 (buildF own).init)) := (But.setCell (S := fun k => k = w.heap.size) (p := ⟨w.heap.size, 0, none⟩) rfl _).trans (But.setCell (S := fun k => k = w.heap.size) (p := ⟨w.heap.size, 1, none⟩) rfl _)
 exact ret_ct rfl hf s4 s5 (set_block (set_block hq0 _) _) Tryd.underlying25 rfl (by kernel_rfl) ⟨_, by rw [HOWN.out]; rfl, by rw [HOWN.out]; exact hr2.off2 hq0 hbb, (hbt.setCell (p := ⟨w.heap.size, 0, none⟩) (Nat.le_refl _) _).setCell (p := ⟨w.heap.size, 1, none⟩) (Nat.le_refl _) _⟩
end Dw
end Go.Proofs.YtdkbgbdgmihlmaaDoor

namespace Go.Proofs.YtdkbgbdgmihlmaaDoor
open Go.RowKit
set_option linter.unusedSimpArgs false
set_option linter.unusedVariables false
set_option linter.unnecessarySimpa false
namespace Dw
def AllK (ss : List State) : Prop := ∀ s ∈ ss, okK s
theorem finish_K {ss : List State} {s : State} (h : AllK ss) (hs : okK s) : AllK (finish ss s).1 := by
  by_cases hm : s ∈ ss
  · obtain ⟨i, _, _, h3⟩ := finish_found hm
    rw [h3]; exact h
  · rw [finish_new hm]
    intro x hx
    rcases List.mem_append.1 hx with hx | hx
    · exact h x hx
    · simp at hx; subst hx; exact hs
theorem closeN_K {N M : Nat} (hM : M ≤ 1000000) (hN : N ≤ 200) : ∀ (n : Nat) (ss : List State) (way : List Open), Bnd N M ss way → AllK ss → AllK (closeN n ss way).1
  | 0, ss, way, _, h => by rw [closeN_zero]; exact h
  | n + 1, ss, [], _, h => by rw [closeN_short _ _ _ (by simp)]; exact h
  | n + 1, ss, [o], _, h => by rw [closeN_short _ _ _ (by simp)]; exact h
  | n + 1, ss, o :: up :: way, hb, h => closeN_K hM hN n _ _ (hb.close1 hM hN) (finish_K h (less_ok (hb.head o rfl) (by omega)))
theorem adds_K : ∀ (l : List Wv) (x : List State × List Open) (last : List Nat) (N M : Nat), BndU N M x.1 x.2 → AllK x.1 → (∀ e ∈ l, (∀ b ∈ e.1, b < 256) ∧ e.1.length ≤ 255 ∧ e.2 < 18446744073709551616) → N + l.length ≤ 200 → M + 255 * l.length ≤ 1000000 → AllK (adds x last l).1
  | [], x, last, N, M, _, h, _, _, _ => h
  | e :: l, (ss, way), last, N, M, hb, h, he, hN, hM => by
    obtain ⟨e1, e2, e3⟩ := he e (List.mem_cons_self ..)
    simp only [List.length_cons] at hN hM ⊢
    have h1 := BndU.add (ss := ss) (way := way) (last := last) hb (by omega) (by omega) e1 e3
    have h2 : BndU (N + 1) (M + 255) (add (ss, way) last e).1 (add (ss, way) last e).2 := ⟨h1.all, by have := h1.size; omega⟩
    have h3 : AllK (add (ss, way) last e).1 := closeN_K (M := M) (N := N) (by omega) (by omega) _ _ _ hb.bnd h
    exact adds_K l (add (ss, way) last e) e.1 (N + 1) (M + 255) h2 h3 (fun y hy => he y (List.mem_cons_of_mem _ hy)) (by omega) (by omega)
theorem build_K9 {l : List Wv} (hl : l.length ≤ 30) (h : ∀ e ∈ l, (∀ b ∈ e.1, b < 256) ∧ e.1.length ≤ 255 ∧ e.2 < 18446744073709551616) : AllK (build l).states := by
  have h0 : BndU 0 1 ([] : List State) [⟨zeroS, 0⟩] := ⟨fun o ho => by simp at ho; subst ho; exact zero_okO 0 (by omega), by simp⟩
  have h1 := adds_bnd l ([], [⟨zeroS, 0⟩]) [] 0 1 h0 h (by omega) (by omega)
  have h3 := adds_K l ([], [⟨zeroS, 0⟩]) [] 0 1 h0 (fun s hs => by cases hs) h (by omega) (by omega)
  have h2 := Bnd.closeN (by omega) (by omega) ((adds ([], [⟨zeroS, 0⟩]) [] l).2.length - (0 + 1)) _ _ h1.bnd
  have h4 := closeN_K (by omega) (by omega) ((adds ([], [⟨zeroS, 0⟩]) [] l).2.length - (0 + 1)) _ _ h1.bnd h3
  unfold build
  simp only
  refine finish_K h4 (less_ok (N := 0 + l.length + 1) ?_ (by omega))
  cases hw : (close (adds ([], [⟨zeroS, 0⟩]) [] l).1 (adds ([], [⟨zeroS, 0⟩]) [] l).2 0).2 with
  | nil => exact (zero_okO 0 (by omega)).more (by omega)
  | cons o way => exact h2.head o (by have := hw; unfold close at this; rw [this]; rfl)
/-- few states, few arcs, as they may be -/
def GoodL (fs : List State) : Prop := (∀ s ∈ fs, okS s) ∧ fs.length ≤ 10000 ∧ ∀ s ∈ fs, s.arcs.length ≤ 1000
theorem good_built {es : List Ent} (hl : es.length ≤ 30) (hes : ∀ e ∈ es, okE e ∧ okW e.word = true) : GoodL (buildF es).states := by
  unfold buildF
  by_cases hc : chkN es = 0
  · rw [if_pos hc]
    have h : ∀ e ∈ es.map wvE, (∀ b ∈ e.1, b < 256) ∧ e.1.length ≤ 255 ∧ e.2 < 18446744073709551616 := fun e he => by
      obtain ⟨x, hx, rfl⟩ := List.mem_map.1 he
      have h1 := hes x hx
      have h2 := okW_size h1.2
      have h3 := valE_lt h1.1
      refine ⟨wl_lt _, ?_, ?_⟩
      · show (wl x.word).length ≤ 255
        rw [wl_length]; exact h2
      · show valE x < _
        omega
    have h4 : (es.map wvE).length ≤ 30 := by simpa using hl
    have hk := build_K9 h4 h
    exact ⟨fun s hs => (hk s hs).ok, build_few h4 h, fun s hs => by have := (hk s hs).few; omega⟩
  · rw [if_neg hc]
    exact ⟨by simp, by simp, by simp⟩
theorem good_cut {ss : List State} (h : ∀ s ∈ ss, okR s) : GoodL ((ss.take 12).map cut6) := by
  refine ⟨fun s hs => ?_, by simp; omega, fun s hs => ?_⟩
  · obtain ⟨x, hx, rfl⟩ := List.mem_map.1 hs
    exact okS_cut (h x (List.mem_of_mem_take hx))
  · obtain ⟨x, hx, rfl⟩ := List.mem_map.1 hs
    simp [cut6]; omega
theorem good_formed {ss : List State} (h : ∀ s ∈ ss, okR s) : GoodL (formedF ss) := by
  obtain ⟨h1, h2, h3, h4, _⟩ := formed_ok h
  exact ⟨h1, by omega, fun s hs => by have := h4 s hs; omega⟩
theorem init_lt {es : List Ent} (hes : ∀ e ∈ es, okE e) : (buildF es).init < 18446744073709551616 := by
  unfold buildF
  by_cases hc : chkN es = 0
  · obtain ⟨c1, c2, _⟩ := chk_all es none hc
    rw [if_pos hc]
    by_cases hn : es.map wvE = []
    · rw [hn]; decide
    · have hlt : AllLt 256 (es.map wvE) := fun e he => by
        obtain ⟨x, hx, rfl⟩ := List.mem_map.1 he
        have := okW_size (c1 x hx)
        show (wl x.word).length < 256
        rw [wl_length]; omega
      rw [build_K hlt hn c2]
      obtain ⟨e, he, h2⟩ := leastV_mem hn
      obtain ⟨x, hx, rfl⟩ := List.mem_map.1 he
      show leastV (es.map wvE) < _
      rw [h2]
      have := valE_lt (hes x hx)
      show valE x < _
      omega
  · rw [if_neg hc]; decide
def PFG : Stab.Pr := fun v w => ∃ (sv : Value) (i : Nat) (fs : List State), v = .agg #[sv, .int .u64 i] ∧ i < 18446744073709551616 ∧ RS w sv fs ∧ GoodL fs
theorem PFG.stable : Stab.Stable PFG := fun v w w' hb ⟨sv, i, ss, h1, h2, h3, h4⟩ => ⟨sv, i, ss, h1, h2, h3.later hb, h4⟩
theorem PFG.form {v : Value} {i : Nat} {w : World} (h : PFG (.agg #[v, .int .u64 i]) w) : ∃ A n c, v = .slice A n c := by
  obtain ⟨sv, i2, ss, h1, _, h3, _⟩ := h
  obtain ⟨A, c, h4, _⟩ := h3.form
  injection h1 with h1
  injection h1 with h1
  injection h1 with h1 _
  exact ⟨A, _, c, h1.trans h4⟩
def PArr3 : Stab.Pr := fun v w => ∃ (a b c : Value) (i j k : Nat), v = .agg #[a, .int .u64 i, b, .int .u64 j, c, .int .u64 k] ∧ PFG (.agg #[a, .int .u64 i]) w ∧ PFG (.agg #[b, .int .u64 j]) w ∧ PFG (.agg #[c, .int .u64 k]) w
theorem PArr3.stable : Stab.Stable PArr3 := fun v w w' hb ⟨a, b, c, i, j, k, h, h1, h2, h3⟩ => ⟨a, b, c, i, j, k, h, PFG.stable _ _ _ hb h1, PFG.stable _ _ _ hb h2, PFG.stable _ _ _ hb h3⟩
theorem four_at {a b c d : Int} {k : Nat} (hk : k < 4) : ∃ z : Int, ∀ w, (Instr.index 59 (.agg #[.int .i64 a, .int .i64 b, .int .i64 c, .int .i64 d]) (.int .i64 (k : Int))).run Tryd.prog w = .ok (.int .i64 z) w := by
  match k, hk with
  | 0, _ => exact ⟨a, fun w => by kernel_rfl⟩
  | 1, _ => exact ⟨b, fun w => by kernel_rfl⟩
  | 2, _ => exact ⟨c, fun w => by kernel_rfl⟩
  | 3, _ => exact ⟨d, fun w => by kernel_rfl⟩
end Dw
end Go.Proofs.YtdkbgbdgmihlmaaDoor

namespace Go.Proofs.YtdkbgbdgmihlmaaDoor
open Go.RowKit
set_option linter.unusedSimpArgs false
set_option linter.unusedVariables false
set_option linter.unnecessarySimpa false
namespace Dw
set_option maxHeartbeats 4000000 in
set_option maxRecDepth 100000 in
theorem lays6 (w : World) (sva : Value) (ia : Nat) (ssa : List State) (hra : RS w sva ssa) (oka : ∀ s ∈ ssa, okR s) (hia : ia < 18446744073709551616) (en : Int) (ds : List Dra) (dv : Value) (hrd : RDs w w.heap.size dv ds) (hok : ∀ d ∈ ds, okD d) (hE : ETy w) : Calls Tryd.prog 6 #[.agg #[sva, .int .u64 ia], .int .i64 en, dv] w fun e w1 => e = .returned (.bool true) ∧ Below w.heap.size w w1 := by
 refine calls_of_wp Tryd.func6 rfl ?_
 refine Fact.en 70 fun fr hf hT => ?_
 have s0 := hT 0 _ rfl
 have s1 := hT 1 _ rfl
 have s2 := hT 2 _ rfl
 clear hT
 have hll := (list_ok (n := 30) hok).2.2
 have hlo := (list_ok (n := 30) hok).1
 have hgo := good_built hll (fun e he => ⟨(hlo e he).1, (hlo e he).2.1⟩)
 have hio := init_lt (es := listOf ds 30) (fun e he => (hlo e he).1)
 have hgc := good_cut oka; have hgf := good_formed oka
 obtain ⟨fo, hfo⟩ : ∃ x, (buildF (listOf ds 30)).states = x := ⟨_, rfl⟩
 obtain ⟨io, hin⟩ : ∃ x, (buildF (listOf ds 30)).init = x := ⟨_, rfl⟩
 obtain ⟨mn, hmn⟩ : ∃ x, (listOf ds 30).length = x := ⟨_, rfl⟩
 rw [hfo] at hgo; rw [hin] at hio; rw [hmn] at hll
 have HFO := Lib.hid hfo; have HIN := Lib.hid hin; have HMN := Lib.hid hmn; have HGO := Lib.hid hgo; have HGC := Lib.hid hgc; have HGF := Lib.hid hgf; clear hfo hin hmn hgo hgc hgf hlo oka
 obtain ⟨Aa, ca, rfl, hca⟩ := hra.form
 refine Fact.sq fun K1 hK1 => ?_
 refine rg ?_
 refine fp fun K Z => ?_
 go_simp
 apply Z.out; clear Z K
 refine fp fun K Z => ?_
 go_simp
 apply Z.out; clear Z K
 refine Fact.z hf fun fr1 hf1 hT => ?_
 have hKp : _ ∧ _ ∧ _ := ⟨hT 1, hT 2, hT 3⟩
 simp (decide := true) only [Fact.G, hf.size, reduceIte, s1, s2] at hKp
 replace hf := hf1; clear hT hf1 s0 s1 s2
 obtain ⟨s1, s2, s3⟩ := hKp
 obtain ⟨W0, hW0⟩ : ∃ W0, w.alloc (.cells #[.slice Aa ssa.length ca, .int .u64 ia] 25) = W0 := ⟨_, rfl⟩
 try rw [hW0]
 obtain ⟨hb0, a0, a1, -, -⟩ := box2 hW0
 clear hW0
 have hra0 := hra.later hb0
 have hrd0 := (hrd.below hb0).more hb0.size
 replace hE := cL hb0 hE
 clear hra hrd
 refine nx (hK1 _ _ ?_)
 refine Fact.sq fun K2 hK2 => ?_
 refine rg ?_
 have b18 := hf.b 18
 have b19 := hf.b 19
 have b17 := hf.b 17
 have b20 := hf.b 20
 have b21 := hf.b 21
 have b7 := hf.b 7
 refine fp fun K Z => ?_
 go_simp
 apply Z.out; clear Z K
 refine fp fun K Z => ?_
 go_simp
 go_at_call 19; refine (of19 W0 ds _ hrd0 hok).mono ?_; rintro e w1 ⟨svo, rfl, hro, hb1⟩
 rw [HFO.out] at hro
 rw [HIN.out, HMN.out]
 obtain ⟨Ao, co, hsv, _⟩ := hro.form
 subst hsv
 replace a0 := cL hb1 a0; replace a1 := cL hb1 a1; replace hE := cL hb1 hE
 replace hra0 := hra0.later hb1
 have hbt := hb0.trans (hb1.mono hb0.size)
 try dsimp only
 apply Z.out; clear Z K
 refine fp fun K Z => ?_
 go_simp
 apply Z.out; clear Z K
 refine fp fun K Z => ?_
 go_simp
 apply Z.out; clear Z K
 refine fp fun K Z => ?_
 go_simp
 apply Z.out; clear Z K
 refine fp fun K Z => ?_
 go_simp
 apply Z.out; clear Z K
 refine fp fun K Z => ?_
 go_simp
 apply Z.out; clear Z K
 refine fp fun K Z => ?_
 go_simp
 apply Z.out; clear Z K
 refine Fact.z hf fun fr1 hf1 hT => ?_
 have hKp : _ ∧ _ ∧ _ ∧ _ := ⟨hT 1, hT 3, hT 7, hT 8⟩
 simp (decide := true) only [Fact.G, hf.size, reduceIte, s1, s3] at hKp
 replace hf := hf1; clear hT hf1 s1 s2 s3 b18 b19 b17 b20 b21 b7
 obtain ⟨s1, s3, s7, s8⟩ := hKp
 obtain ⟨W2, hW2⟩ : ∃ W0, w1.alloc (.cells #[.slice Ao fo.length co, .int .u64 io] 25) = W0 := ⟨_, rfl⟩
 try rw [hW2]
 obtain ⟨hb2, o0, o1, -, -⟩ := box2 hW2
 clear hW2
 replace a0 := cL hb2 a0; replace a1 := cL hb2 a1; replace hE := cL hb2 hE
 replace hra0 := hra0.later hb2; replace hro := hro.later hb2
 replace hbt := hbt.trans (hb2.mono hbt.size)
 clear hrd0 hb0 hb1 hb2
 refine nx (hK2 _ _ ?_)
 refine Fact.sq fun K3 hK3 => ?_
 refine Fact.sq fun K4 hK4 => ?_
 refine Stab.tb 70 fun hok => ?_
 apply Stab.tq 0 _ hf hok
 · (
 intro fr1 w1 hh hd hk K Z
 have s3 := Stab.O hh s3
 clear hd
 replace a0 := cL hh.ext a0
 replace a1 := cL hh.ext a1
 replace o0 := cL hh.ext o0
 replace o1 := cL hh.ext o1
 replace hra0 := hra0.later hh.ext
 replace hro := hro.later hh.ext
 replace hE := cL hh.ext hE
 replace hbt := hbt.trans (hh.ext.mono hbt.size)
 go_simp
 exact Stab.k Z)
 refine Stab.todo_op (k := 1) (n := 70) (PFG) hf.size hok.out rfl (PFG.stable) ?_ ?_
 · (
 intro fr1 w1 hh hd hk K Z
 refine Stab.pl ?_
 have s22 := Stab.v 0 0 hd hk []
 clear hd
 replace a0 := cL hh.ext a0
 replace a1 := cL hh.ext a1
 replace o0 := cL hh.ext o0
 replace o1 := cL hh.ext o1
 replace hra0 := hra0.later hh.ext
 replace hro := hro.later hh.ext
 replace hE := cL hh.ext hE
 replace hbt := hbt.trans (hh.ext.mono hbt.size)
 go_simp
 go_at_call 20; refine (few20 w1 _ ia ssa hra0).mono ?_; rintro e w2 ⟨sv1, rfl, hr, hb⟩
 exact Z.out _ rfl _ _ hb ⟨_, _, _, rfl, hia, hr, HGC.out⟩)
 apply Stab.tq 2 _ hf hok
 · (
 intro fr1 w1 hh hd hk K Z
 have s3 := Stab.O hh s3
 clear hd
 replace a0 := cL hh.ext a0
 replace a1 := cL hh.ext a1
 replace o0 := cL hh.ext o0
 replace o1 := cL hh.ext o1
 replace hra0 := hra0.later hh.ext
 replace hro := hro.later hh.ext
 replace hE := cL hh.ext hE
 replace hbt := hbt.trans (hh.ext.mono hbt.size)
 go_simp
 exact Stab.k Z)
 refine Stab.todo_op (k := 3) (n := 70) (PFG) hf.size hok.out rfl (PFG.stable) ?_ ?_
 · (
 intro fr1 w1 hh hd hk K Z
 refine Stab.pl ?_
 have s24 := Stab.v 2 0 hd hk []
 clear hd
 replace a0 := cL hh.ext a0
 replace a1 := cL hh.ext a1
 replace o0 := cL hh.ext o0
 replace o1 := cL hh.ext o1
 replace hra0 := hra0.later hh.ext
 replace hro := hro.later hh.ext
 replace hE := cL hh.ext hE
 replace hbt := hbt.trans (hh.ext.mono hbt.size)
 go_simp
 go_at_call 9; refine (formed9 w1 _ ia ssa hra0).mono ?_; rintro e w2 ⟨sv1, rfl, hr, hb⟩
 exact Z.out _ rfl _ _ hb ⟨_, _, _, rfl, hia, hr, HGF.out⟩)
 apply Stab.tq 4 _ hf hok
 · (
 intro fr1 w1 hh hd hk K Z
 have s7 := Stab.O hh s7
 clear hd
 replace a0 := cL hh.ext a0
 replace a1 := cL hh.ext a1
 replace o0 := cL hh.ext o0
 replace o1 := cL hh.ext o1
 replace hra0 := hra0.later hh.ext
 replace hro := hro.later hh.ext
 replace hE := cL hh.ext hE
 replace hbt := hbt.trans (hh.ext.mono hbt.size)
 go_simp
 exact Stab.k Z)
 refine Stab.todo_op (k := 5) (n := 70) (PArr3) hf.size hok.out rfl (PArr3.stable) ?_ ?_
 · (
 intro fr1 w1 hh hd hk K Z
 refine Stab.pl ?_
 obtain ⟨x23, s23, hp23⟩ := Stab.use (j := 1) (m := 3) hd hk rfl [] (by kernel_rfl) rfl rfl rfl
 obtain ⟨V23, i23, f23, hv23, hi23, hr23, hg23⟩ := hp23
 subst hv23
 obtain ⟨x25, s25, hp25⟩ := Stab.use (j := 3) (m := 1) hd hk rfl [] (by kernel_rfl) rfl rfl rfl
 obtain ⟨V25, i25, f25, hv25, hi25, hr25, hg25⟩ := hp25
 subst hv25
 have s26 := Stab.v 4 0 hd hk []
 clear hd
 go_simp
 exact Z.out _ rfl _ _ (Below.refl _ _) ⟨_, _, _, _, _, _, rfl, ⟨_, _, _, rfl, hi23, hr23, hg23⟩, ⟨_, _, _, rfl, hi25, hr25, hg25⟩, ⟨_, _, _, rfl, hio, hro.later hh.ext, HGO.out⟩⟩)
 apply Stab.tq 6 _ hf hok
 · (
 intro fr1 w1 hh hd hk K Z
 clear hd
 go_simp
 exact Stab.k Z)
 refine Stab.tf hf hok fun fr1 w1 hh hg => ?_
 replace s1 := Stab.O hh s1
 replace s8 := Stab.O hh s8
 obtain ⟨x27, s27, hp27⟩ := Stab.end_use (j := 5) (m := 1) hg rfl rfl rfl rfl
 have ha27 := hp27
 have s28 := Stab.f 6 0 hg
 have hf1 := hh.fr hf
 have hx := hh.ext
 replace a0 := cL hx a0
 replace a1 := cL hx a1
 replace o0 := cL hx o0
 replace o1 := cL hx o1
 replace hra0 := hra0.later hx
 replace hro := hro.later hx
 replace hE := cL hx hE
 replace hbt := hbt.trans (hx.mono hbt.size)
 clear hg hh hf hok s3 s7
 have hf := hf1; clear hf1
 refine nx (hK4 _ _ ?_)
 refine wp_block ?_
 obtain ⟨pa, pb, pc, ja, jb, jc, hx27, hfa, hfb, hfc⟩ := ha27
 subst hx27
 obtain ⟨Aa, na, ka, hpa⟩ := PFG.form hfa; subst hpa
 obtain ⟨Ab, nb, kb, hpb⟩ := PFG.form hfb; subst hpb
 obtain ⟨Ac, nc, kc, hpc⟩ := PFG.form hfc; subst hpc
 clear a0 a1 o0 o1 hra0 hro hx
 have hB1 := Below.refl w1.heap.size w1
 refine wp_loop_ghost (fun gk fr wr => ∃ (k : Nat), gk = 3 - k ∧ k ≤ 3 ∧ Fact.Fr 70 fr ∧ fr.tmps[1]? = some (.int .i64 en) ∧ fr.tmps[8]? = some (.int .i64 mn) ∧ fr.tmps[27]? = some (.agg #[.slice Aa na ka, .int .u64 ja, .slice Ab nb kb, .int .u64 jb, .slice Ac nc kc, .int .u64 jc]) ∧ fr.tmps[28]? = some (.int .i64 k) ∧ ETy wr ∧ Below w1.heap.size w1 wr) (3) ?_ ?_
 · (
 exact ⟨0, rfl, Nat.zero_le _, hf, s1, s8, s27, s28, hE, hB1⟩)
 · (
 clear hf s1 s8 s27 s28
 clear hE hB1
 rintro gk fr wr ⟨k, hk, hk3, hf, s1, s8, s27, s28, hE, hb⟩
 have HK := Lib.hid hk; clear hk
 refine Fact.sq fun K5 hK5 => ?_
 refine rg ?_
 refine fp fun K Z => ?_
 go_simp
 apply Z.out; clear Z K
 refine Fact.z hf fun fr1 hf1 hT => ?_
 have hKp : _ ∧ _ ∧ _ ∧ _ ∧ _ := ⟨hT 1, hT 8, hT 27, hT 28, hT 29⟩
 simp (decide := true) only [Fact.G, hf.size, reduceIte, s1, s8, s27, s28] at hKp
 replace hf := hf1; clear hT hf1 s1 s8 s27 s28
 obtain ⟨s1, s8, s27, s28, s29⟩ := hKp
 refine nx (hK5 _ _ ?_)
 refine Fact.sq fun K6 hK6 => ?_
 refine Fact.cond_s s29 (fun hq => ?_) (fun hq => ?_)
 · (
 have hlt : k < 3 := by have h9 := of_decide_eq_true hq; omega
 clear hq
 refine wp_skip ?_
 refine nx (hK6 _ _ ?_)
 refine Fact.sq fun K7 hK7 => ?_
 refine wp_block ?_
 refine Fact.seq_meet (fun fr wq => Fact.Fr 70 fr ∧ fr.tmps[1]? = some (.int .i64 en) ∧ fr.tmps[8]? = some (.int .i64 mn) ∧ fr.tmps[27]? = some (.agg #[.slice Aa na ka, .int .u64 ja, .slice Ab nb kb, .int .u64 jb, .slice Ac nc kc, .int .u64 jc]) ∧ fr.tmps[28]? = some (.int .i64 k) ∧ Below wr.heap.size wr wq ∧ ∃ (g : Nat) (sv1 : Value) (i1 : Nat), fr.tmps[10]? = some (.pointer (some ⟨g, 0, none⟩)) ∧ wq.heap[g]? = some (.cells #[sv1, .int .u64 i1] 25 (0, 0)) ∧ PFG (.agg #[sv1, .int .u64 i1]) wq) ?_ ?_
 · (
 obtain rfl | rfl | rfl : k = 0 ∨ k = 1 ∨ k = 2 := by omega
 · (
 have hty : ∀ (h : 25 < Tryd.prog.types.size), (Tryd.prog.types[25]'h).size = 2 := fun h => by kernel_rfl
 refine rg ?_
 have b30 := hf.b 30
 have b10 := hf.b 10
 refine fp fun K Z => ?_
 go_simp
 apply Z.out; clear Z K
 refine fp fun K Z => ?_
 go_simp
 apply Z.out; clear Z K
 refine fp fun K Z => ?_
 go_simp
 apply Z.out; clear Z K
 refine Fact.z hf fun fr1 hf1 hT => ?_
 have hKp : _ ∧ _ ∧ _ ∧ _ ∧ _ := ⟨hT 1, hT 8, hT 10, hT 27, hT 28⟩
 simp (decide := true) only [Fact.G, hf.size, reduceIte, s1, s8, s27, s28] at hKp
 replace hf := hf1; clear hT hf1 s1 s8 s27 s28 s29 b30 b10
 obtain ⟨s1, s8, s10, s27, s28⟩ := hKp
 clear hty
 obtain ⟨W5, hW5⟩ : ∃ W0, wr.alloc (.cells #[.slice Aa na ka, .int .u64 ja] 25) = W0 := ⟨_, rfl⟩
 try rw [hW5]
 obtain ⟨hb5, -, -, hx5, -⟩ := box2 hW5
 clear hW5
 have hfx := PFG.stable _ _ _ ((hb.mono (Nat.le_refl _)).trans (hb5.mono hb.size)) hfa
 refine Fact.then_normal ?_
 exact ⟨hf, s1, s8, s27, s28, hb5, _, _, _, s10, hx5, hfx⟩)
 · (
 have hty : ∀ (h : 25 < Tryd.prog.types.size), (Tryd.prog.types[25]'h).size = 2 := fun h => by kernel_rfl
 refine rg ?_
 have b30 := hf.b 30
 have b10 := hf.b 10
 refine fp fun K Z => ?_
 go_simp
 apply Z.out; clear Z K
 refine fp fun K Z => ?_
 go_simp
 apply Z.out; clear Z K
 refine fp fun K Z => ?_
 go_simp
 apply Z.out; clear Z K
 refine Fact.z hf fun fr1 hf1 hT => ?_
 have hKp : _ ∧ _ ∧ _ ∧ _ ∧ _ := ⟨hT 1, hT 8, hT 10, hT 27, hT 28⟩
 simp (decide := true) only [Fact.G, hf.size, reduceIte, s1, s8, s27, s28] at hKp
 replace hf := hf1; clear hT hf1 s1 s8 s27 s28 s29 b30 b10
 obtain ⟨s1, s8, s10, s27, s28⟩ := hKp
 clear hty
 obtain ⟨W5, hW5⟩ : ∃ W0, wr.alloc (.cells #[.slice Ab nb kb, .int .u64 jb] 25) = W0 := ⟨_, rfl⟩
 try rw [hW5]
 obtain ⟨hb5, -, -, hx5, -⟩ := box2 hW5
 clear hW5
 have hfx := PFG.stable _ _ _ ((hb.mono (Nat.le_refl _)).trans (hb5.mono hb.size)) hfb
 refine Fact.then_normal ?_
 exact ⟨hf, s1, s8, s27, s28, hb5, _, _, _, s10, hx5, hfx⟩)
 · (
 have hty : ∀ (h : 25 < Tryd.prog.types.size), (Tryd.prog.types[25]'h).size = 2 := fun h => by kernel_rfl
 refine rg ?_
 have b30 := hf.b 30
 have b10 := hf.b 10
 refine fp fun K Z => ?_
 go_simp
 apply Z.out; clear Z K
 refine fp fun K Z => ?_
 go_simp
 apply Z.out; clear Z K
 refine fp fun K Z => ?_
 go_simp
 apply Z.out; clear Z K
 refine Fact.z hf fun fr1 hf1 hT => ?_
 have hKp : _ ∧ _ ∧ _ ∧ _ ∧ _ := ⟨hT 1, hT 8, hT 10, hT 27, hT 28⟩
 simp (decide := true) only [Fact.G, hf.size, reduceIte, s1, s8, s27, s28] at hKp
 replace hf := hf1; clear hT hf1 s1 s8 s27 s28 s29 b30 b10
 obtain ⟨s1, s8, s10, s27, s28⟩ := hKp
 clear hty
 obtain ⟨W5, hW5⟩ : ∃ W0, wr.alloc (.cells #[.slice Ac nc kc, .int .u64 jc] 25) = W0 := ⟨_, rfl⟩
 try rw [hW5]
 obtain ⟨hb5, -, -, hx5, -⟩ := box2 hW5
 clear hW5
 have hfx := PFG.stable _ _ _ ((hb.mono (Nat.le_refl _)).trans (hb5.mono hb.size)) hfc
 refine Fact.then_normal ?_
 exact ⟨hf, s1, s8, s27, s28, hb5, _, _, _, s10, hx5, hfx⟩))
 · (
 clear hf s1 s8 s27 s28 s29
 rintro fr wq ⟨hf, s1, s8, s27, s28, hbq, g, sv1, i1, s10, hxq, sv2, i2, ss2, he2, hi2, hr2, hg2⟩
 injection he2 with he2
 injection he2 with he2
 injection he2 with he3 he4
 subst he3
 simp only [List.cons.injEq, Value.int.injEq, Int.natCast_inj, true_and, and_true] at he4
 subst he4
 have HG2 := Lib.hid hg2; have hl2 : ss2.length ≤ 100000 := by have := hg2.2.1; omega
 clear hg2
 have z0 := cell_of_row _ _ 0 _ 25 (0, 0) hxq; have z1 := cell_of_row _ _ 1 _ 25 (0, 0) hxq
 simp at z0 z1
 obtain ⟨A2, c2, rfl, _⟩ := hr2.form
 replace hE := cL hbq hE
 replace hb := hb.trans (hbq.mono hb.size)
 clear hbq hxq
 refine Fact.sq fun K8 hK8 => ?_
 refine rg ?_
 have b31 := hf.b 31
 have b32 := hf.b 32
 have b33 := hf.b 33
 have b34 := hf.b 34
 refine fp fun K Z => ?_
 go_simp
 apply Z.out; clear Z K
 refine fp fun K Z => ?_
 go_simp
 apply Z.out; clear Z K
 refine fp fun K Z => ?_
 go_simp
 try rw [if_neg (by decide)]
 obtain ⟨e1, he1⟩ : ∃ z, en.tmod 1000 = z := ⟨_, rfl⟩
 try rw [he1]
 try rw [Oper.upon_value]
 clear he1
 apply Z.out; clear Z K
 refine fp fun K Z => ?_
 go_simp
 apply Z.out; clear Z K
 refine fp fun K Z => ?_
 go_simp
 apply Z.out; clear Z K
 refine fp fun K Z => ?_
 go_simp
 apply Z.out; clear Z K
 refine Fact.z hf fun fr1 hf1 hT => ?_
 have hKp : _ ∧ _ ∧ _ ∧ _ ∧ _ ∧ _ ∧ _ := ⟨hT 1, hT 8, hT 10, hT 27, hT 28, hT 35, hT 36⟩
 simp (decide := true) only [Fact.G, hf.size, reduceIte, s1, s8, s10, s27, s28] at hKp
 replace hf := hf1; clear hT hf1 s1 s8 s10 s27 s28 b31 b32 b33 b34
 obtain ⟨s1, s8, s10, s27, s28, s35, s36⟩ := hKp
 refine nx (hK8 _ _ ?_)
 refine wp_block ?_
 obtain ⟨V4, hV4⟩ : ∃ x : Value, .agg #[.int .i64 en, .int .i64 e1, .int .i64 mn, .int .i64 100000] = x := ⟨_, rfl⟩
 rw [hV4] at s35
 have h4 : ∀ j : Nat, j < 4 → ∃ z : Int, ∀ w, (Instr.index 59 V4 (.int .i64 (j : Int))).run Tryd.prog w = .ok (.int .i64 z) w := fun j hj => by subst hV4; exact four_at hj
 have H4 := Lib.hid h4; clear h4 hV4
 refine wp_loop_ghost (fun gk2 fr w2 => ∃ (j : Nat), gk2 = 4 - j ∧ j ≤ 4 ∧ Fact.Fr 70 fr ∧ fr.tmps[1]? = some (.int .i64 en) ∧ fr.tmps[8]? = some (.int .i64 mn) ∧ fr.tmps[10]? = some (.pointer (some ⟨g, 0, none⟩)) ∧ fr.tmps[27]? = some (.agg #[.slice Aa na ka, .int .u64 ja, .slice Ab nb kb, .int .u64 jb, .slice Ac nc kc, .int .u64 jc]) ∧ fr.tmps[28]? = some (.int .i64 k) ∧ fr.tmps[35]? = some V4 ∧ fr.tmps[36]? = some (.int .i64 j) ∧ ETy w2 ∧ Below wq.heap.size wq w2) (4) ?_ ?_
 · (
 exact ⟨0, rfl, Nat.zero_le _, hf, s1, s8, s10, s27, s28, s35, s36, hE, Below.refl _ _⟩)
 · (
 clear hf s1 s8 s10 s27 s28 s35 s36
 clear hE
 rintro gk2 fr w2 ⟨j, hk2, hj4, hf, s1, s8, s10, s27, s28, s35, s36, hE, hb2⟩
 have HK2 := Lib.hid hk2; clear hk2
 refine Fact.sq fun K9 hK9 => ?_
 refine rg ?_
 refine fp fun K Z => ?_
 go_simp
 apply Z.out; clear Z K
 refine Fact.z hf fun fr1 hf1 hT => ?_
 have hKp : _ ∧ _ ∧ _ ∧ _ ∧ _ ∧ _ ∧ _ ∧ _ := ⟨hT 1, hT 8, hT 10, hT 27, hT 28, hT 35, hT 36, hT 37⟩
 simp (decide := true) only [Fact.G, hf.size, reduceIte, s1, s8, s10, s27, s28, s35, s36] at hKp
 replace hf := hf1; clear hT hf1 s1 s8 s10 s27 s28 s35 s36
 obtain ⟨s1, s8, s10, s27, s28, s35, s36, s37⟩ := hKp
 refine nx (hK9 _ _ ?_)
 refine Fact.sq fun K10 hK10 => ?_
 refine Fact.cond_s s37 (fun hq2 => ?_) (fun hq2 => ?_)
 · (
 have hlt2 : j < 4 := by have h9 := of_decide_eq_true hq2; omega
 clear hq2
 obtain ⟨z, hz⟩ := H4.out j hlt2
 have y0 := cL hb2 z0; have y1 := cL hb2 z1; have hr3 := hr2.later hb2
 refine wp_skip ?_
 refine nx (hK10 _ _ ?_)
 refine Fact.sq fun K11 hK11 => ?_
 refine wp_block ?_
 refine Fact.sq fun K12 hK12 => ?_
 refine rg ?_
 have b38 := hf.b 38
 refine fp fun K Z => ?_
 go_simp
 apply Z.out; clear Z K
 refine fp fun K Z => ?_
 go_simp
 apply Z.out; clear Z K
 refine Fact.z hf fun fr1 hf1 hT => ?_
 have hKp : _ ∧ _ ∧ _ ∧ _ ∧ _ ∧ _ ∧ _ ∧ _ := ⟨hT 1, hT 8, hT 10, hT 12, hT 27, hT 28, hT 35, hT 36⟩
 simp (decide := true) only [Fact.G, hf.size, reduceIte, s1, s8, s10, s27, s28, s35, s36] at hKp
 replace hf := hf1; clear hT hf1 s1 s8 s10 s27 s28 s35 s36 s37 b38
 obtain ⟨s1, s8, s10, s12, s27, s28, s35, s36⟩ := hKp
 refine nx (hK12 _ _ ?_)
 refine Fact.sq fun K13 hK13 => ?_
 refine rg ?_
 have b40 := hf.b 40
 have b41 := hf.b 41
 have b42 := hf.b 42
 have b39 := hf.b 39
 have b43 := hf.b 43
 have b44 := hf.b 44
 refine fp fun K Z => ?_
 go_simp
 apply Z.out; clear Z K
 refine fp fun K Z => ?_
 go_simp
 apply Z.out; clear Z K
 refine fp fun K Z => ?_
 go_simp
 go_at_call 14; refine (put14 w2 z _ i1 ss2 hr3 HG2.out.1 hl2 HG2.out.2.2 hi2).mono ?_; rintro e w3 ⟨rfl, hb3⟩
 replace y0 := cL hb3 y0; replace y1 := cL hb3 y1; replace hr3 := hr3.later hb3; replace hE := cL hb3 hE
 replace hb2 := hb2.trans (hb3.mono hb2.size)
 try dsimp only
 apply Z.out; clear Z K
 refine fp fun K Z => ?_
 go_simp
 apply Z.out; clear Z K
 refine fp fun K Z => ?_
 go_simp
 apply Z.out; clear Z K
 refine fp fun K Z => ?_
 go_simp
 apply Z.out; clear Z K
 refine fp fun K Z => ?_
 go_simp
 apply Z.out; clear Z K
 refine fp fun K Z => ?_
 go_simp
 apply Z.out; clear Z K
 refine Fact.z hf fun fr1 hf1 hT => ?_
 have hKp : _ ∧ _ ∧ _ ∧ _ ∧ _ ∧ _ ∧ _ ∧ _ ∧ _ ∧ _ := ⟨hT 1, hT 8, hT 10, hT 12, hT 13, hT 14, hT 27, hT 28, hT 35, hT 36⟩
 simp (decide := true) only [Fact.G, hf.size, reduceIte, s1, s8, s10, s12, s27, s28, s35, s36] at hKp
 replace hf := hf1; clear hT hf1 s1 s8 s10 s12 s27 s28 s35 s36 b40 b41 b42 b39 b43 b44
 obtain ⟨s1, s8, s10, s12, s13, s14, s27, s28, s35, s36⟩ := hKp
 refine nx (hK13 _ _ ?_)
 refine Fact.sq fun K14 hK14 => ?_
 refine rg ?_
 have b46 := hf.b 46
 have b47 := hf.b 47
 have b48 := hf.b 48
 have b45 := hf.b 45
 have b49 := hf.b 49
 have b50 := hf.b 50
 refine fp fun K Z => ?_
 go_simp
 apply Z.out; clear Z K
 refine fp fun K Z => ?_
 go_simp
 apply Z.out; clear Z K
 refine fp fun K Z => ?_
 go_simp
 go_at_call 8; refine (rput8 w3 z _ i1 ss2 hr3 HG2.out.1 hl2 HG2.out.2.2 hi2).mono ?_; rintro e w4 ⟨rfl, hb4⟩
 replace y0 := cL hb4 y0; replace y1 := cL hb4 y1; replace hr3 := hr3.later hb4; replace hE := cL hb4 hE
 replace hb2 := hb2.trans (hb4.mono hb2.size)
 try dsimp only
 apply Z.out; clear Z K
 refine fp fun K Z => ?_
 go_simp
 apply Z.out; clear Z K
 refine fp fun K Z => ?_
 go_simp
 apply Z.out; clear Z K
 refine fp fun K Z => ?_
 go_simp
 apply Z.out; clear Z K
 refine fp fun K Z => ?_
 go_simp
 apply Z.out; clear Z K
 refine fp fun K Z => ?_
 go_simp
 apply Z.out; clear Z K
 refine Fact.z hf fun fr1 hf1 hT => ?_
 have hKp : _ ∧ _ ∧ _ ∧ _ ∧ _ ∧ _ ∧ _ ∧ _ ∧ _ ∧ _ ∧ _ ∧ _ := ⟨hT 1, hT 8, hT 10, hT 12, hT 13, hT 14, hT 15, hT 16, hT 27, hT 28, hT 35, hT 36⟩
 simp (decide := true) only [Fact.G, hf.size, reduceIte, s1, s8, s10, s12, s13, s14, s27, s28, s35, s36] at hKp
 replace hf := hf1; clear hT hf1 s1 s8 s10 s12 s13 s14 s27 s28 s35 s36 b46 b47 b48 b45 b49 b50
 obtain ⟨s1, s8, s10, s12, s13, s14, s15, s16, s27, s28, s35, s36⟩ := hKp
 refine nx (hK14 _ _ ?_)
 have q3 : (((bl (putR z i1 ss2).1).size : Int) != (((bl (putR z i1 ss2).1).size : Nat) : Int)) = false := by simp
 have q4 : ((putR z i1 ss2).2 != (putR z i1 ss2).2) = false := by simp
 have hln : (putR z i1 ss2).1.length = (bl (putR z i1 ss2).1).size := (bl_size _).symm
 have HLN := Lib.hid hln; clear hln
 refine Fact.sq fun K15 hK15 => ?_
 refine rg ?_
 have b51 := hf.b 51
 have b52 := hf.b 52
 have b53 := hf.b 53
 have b54 := hf.b 54
 have b55 := hf.b 55
 have b56 := hf.b 56
 have b57 := hf.b 57
 have b58 := hf.b 58
 have b59 := hf.b 59
 have b60 := hf.b 60
 have b61 := hf.b 61
 have b62 := hf.b 62
 have b63 := hf.b 63
 have b64 := hf.b 64
 have b65 := hf.b 65
 refine fp fun K Z => ?_
 go_simp
 apply Z.out; clear Z K
 refine fp fun K Z => ?_
 go_simp
 apply Z.out; clear Z K
 refine fp fun K Z => ?_
 go_simp
 apply Z.out; clear Z K
 refine fp fun K Z => ?_
 go_simp
 apply Z.out; clear Z K
 refine og 3 54 false ?_ fun K Z => ?_
 · (
 simp (decide := true) only [Fact.G, reduceIte, hf.size, q3, q4])
 go_simp
 apply Z.out; clear Z K
 refine og 3 54 false ?_ fun K Z => ?_
 · (
 simp (decide := true) only [Fact.G, reduceIte, hf.size, q3, q4])
 go_simp
 apply Z.out; clear Z K
 refine og 3 54 false ?_ fun K Z => ?_
 · (
 simp (decide := true) only [Fact.G, reduceIte, hf.size, q3, q4])
 go_simp
 apply Z.out; clear Z K
 refine fp fun K Z => ?_
 go_simp
 apply Z.out; clear Z K
 refine fp fun K Z => ?_
 go_simp
 apply Z.out; clear Z K
 refine og 8 59 false ?_ fun K Z => ?_
 · (
 simp (decide := true) only [Fact.G, reduceIte, hf.size, q3, q4])
 go_simp
 apply Z.out; clear Z K
 refine og 8 59 false ?_ fun K Z => ?_
 · (
 simp (decide := true) only [Fact.G, reduceIte, hf.size, q3, q4])
 go_simp
 apply Z.out; clear Z K
 refine og 8 59 false ?_ fun K Z => ?_
 · (
 simp (decide := true) only [Fact.G, reduceIte, hf.size, q3, q4])
 go_simp
 go_at_call 21; refine (size21 w4 z _ i1 ss2 hr3 HG2.out.1 hl2 HG2.out.2.2 hi2).mono ?_; rintro e w5 ⟨rfl, hb5⟩
 rw [HLN.out]
 replace y0 := cL hb5 y0; replace y1 := cL hb5 y1; replace hr3 := hr3.later hb5; replace hE := cL hb5 hE
 replace hb2 := hb2.trans (hb5.mono hb2.size)
 try dsimp only
 apply Z.out; clear Z K
 refine og 8 59 false ?_ fun K Z => ?_
 · (
 simp (decide := true) only [Fact.G, reduceIte, hf.size, q3, q4])
 go_simp
 apply Z.out; clear Z K
 refine og 8 59 false ?_ fun K Z => ?_
 · (
 simp (decide := true) only [Fact.G, reduceIte, hf.size, q3, q4])
 go_simp
 apply Z.out; clear Z K
 refine og 8 59 false ?_ fun K Z => ?_
 · (
 simp (decide := true) only [Fact.G, reduceIte, hf.size, q3, q4])
 go_simp
 apply Z.out; clear Z K
 refine fp fun K Z => ?_
 go_simp
 apply Z.out; clear Z K
 refine Fact.z hf fun fr1 hf1 hT => ?_
 have hKp : _ ∧ _ ∧ _ ∧ _ ∧ _ ∧ _ ∧ _ ∧ _ := ⟨hT 1, hT 8, hT 10, hT 27, hT 28, hT 35, hT 36, hT 66⟩
 simp (decide := true) only [Fact.G, hf.size, reduceIte, s1, s8, s10, s27, s28, s35, s36] at hKp
 replace hf := hf1; clear hT hf1 s1 s8 s10 s12 s13 s14 s15 s16 s27 s28 s35 s36 b51 b52 b53 b54 b55 b56 b57 b58 b59 b60 b61 b62 b63 b64 b65
 obtain ⟨s1, s8, s10, s27, s28, s35, s36, s66⟩ := hKp
 refine nx (hK15 _ _ ?_)
 refine Fact.cond_f s66 ?_
 refine wp_skip ?_
 refine Fact.block_normal ?_
 refine nx (hK11 _ _ ?_)
 refine rg ?_
 have b67 := hf.b 67
 refine fp fun K Z => ?_
 go_simp
 try simp (disch := omega) only [Fact.W]
 apply Z.out; clear Z K
 refine fp fun K Z => ?_
 go_simp
 apply Z.out; clear Z K
 refine Fact.z hf fun fr1 hf1 hT => ?_
 have hKp : _ ∧ _ ∧ _ ∧ _ ∧ _ ∧ _ ∧ _ := ⟨hT 1, hT 8, hT 10, hT 27, hT 28, hT 35, hT 36⟩
 simp (decide := true) only [Fact.G, hf.size, reduceIte, s1, s8, s10, s27, s28, s35] at hKp
 replace hf := hf1; clear hT hf1 s1 s8 s10 s27 s28 s35 s36 s66 b67
 obtain ⟨s1, s8, s10, s27, s28, s35, s36⟩ := hKp
 refine Fact.then_normal ?_
 exact ⟨_, by have := HK2.out; omega, j + 1, rfl, by omega, hf, s1, s8, s10, s27, s28, s35, by rw [s36]; rfl, hE, hb2⟩)
 · (
 clear hq2
 replace hb := hb.trans (hb2.mono hb.size)
 refine wp_exit ?_
 refine Fact.then_exit ?_
 refine Fact.then_exit ?_
 refine Fact.block_exit ?_
 refine Fact.block_normal ?_
 refine nx (hK7 _ _ ?_)
 refine rg ?_
 have b68 := hf.b 68
 refine fp fun K Z => ?_
 go_simp
 try simp (disch := omega) only [Fact.W]
 apply Z.out; clear Z K
 refine fp fun K Z => ?_
 go_simp
 apply Z.out; clear Z K
 refine Fact.z hf fun fr1 hf1 hT => ?_
 have hKp : _ ∧ _ ∧ _ ∧ _ := ⟨hT 1, hT 8, hT 27, hT 28⟩
 simp (decide := true) only [Fact.G, hf.size, reduceIte, s1, s8, s27] at hKp
 replace hf := hf1; clear hT hf1 s1 s8 s10 s27 s28 s35 s36 s37 b68
 obtain ⟨s1, s8, s27, s28⟩ := hKp
 refine Fact.then_normal ?_
 exact ⟨_, by have := HK.out; omega, k + 1, rfl, by omega, hf, s1, s8, s27, by rw [s28]; rfl, hE, hb⟩))))
 · (
 clear hq
 refine wp_exit ?_
 refine Fact.then_exit ?_
 refine Fact.then_exit ?_
 refine Fact.block_exit ?_
 refine nx (hK3 _ _ ?_)
 refine Fact.sq fun K16 hK16 => ?_
 refine rg ?_
 have b69 := hf.b 69
 refine fp fun K Z => ?_
 go_simp
 go_at_call 13; refine (works13 wr hE).mono ?_; rintro e w2 ⟨rfl, hb2⟩
 try dsimp only
 apply Z.out; clear Z K
 refine fp fun K Z => ?_
 go_simp
 apply Z.out; clear Z K
 refine Fact.z hf fun fr1 hf1 hT => ?_
 have hKp := hT 6
 simp (decide := true) only [Fact.G, hf.size, reduceIte] at hKp
 replace hf := hf1; clear hT hf1 s1 s8 s27 s28 s29 b69
 have s6 := hKp; clear hKp
 refine nx (hK16 _ _ ?_)
 refine wp_ret ?_
 exact Fact.ret1 rfl hf s6 ⟨rfl, hbt.trans ((hb.mono hbt.size).trans (hb2.mono (by have := hb.size; have := hbt.size; omega)))⟩))
end Dw
end Go.Proofs.YtdkbgbdgmihlmaaDoor
