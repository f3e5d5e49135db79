/- fst: Get. -/
import Derived.Test.YtcddnmhmcieebaaGreatDoorY26
import Derived.Test.YtcddnmhmcieebaaGreatDoorTools
import Derived.Test.YtcddnmhmcieebaaGreatDoorY19
import Derived.Test.YtcddnmhmcieebaaGreatDoorY9
namespace Go.Proofs.YtcddnmhmcieebaaGreatDoor
open Go.RowKit
set_option linter.unusedSimpArgs false
set_option linter.unusedVariables false
set_option linter.unnecessarySimpa false
namespace Dw

def getE (s : ByteArray) : Option Nat → Ent × Bool
  | none => (⟨⟨#[]⟩, 0, false⟩, false)
  | some v => (ofE s v, ofB v)
/-- what Get answers -/
def getV (init : Nat) (ss : List State) (s : ByteArray) : Ent × Bool := getE s (valV init ss s)
theorem valV_lt (init : Nat) (ss : List State) (s : ByteArray) (hok : ∀ s ∈ ss, okS s) : ∀ v, valV init ss s = some v → v < 18446744073709551616 := by
  intro v h
  unfold valV valFin at h
  split at h
  · cases h
  · split at h
    · cases h
    · split at h
      · injection h with h
        rw [← h]
        exact Nat.mod_lt _ (by unfold M64; omega)
      · cases h
set_option maxHeartbeats 4000000 in
set_option maxRecDepth 100000 in
theorem get80 (w : World) (sv : Value) (init : Nat) (ss : List State) (s : ByteArray) (hrs : RS w sv ss) (hlen : ss.length ≤ 1000000) (hok : ∀ s ∈ ss, okS s) (hfm : ∀ (k : Nat) (st : State), ss[k]? = some st → okArcs k (-1) st.arcs = true) (h0 : 0 < ss.length) (hin : init < M64) (hss : s.size ≤ 1000000000) : Calls Tryz.prog 80 #[.agg #[sv, .int .u64 init], .string s] w fun e w1 => e = .returned (.tuple #[eval (getV init ss s).1, .bool (getV init ss s).2]) ∧ Below w.heap.size w w1 := by
 refine Zn2 22 Tryz.func80 fun fr hf s0 s1 => ?_
 obtain ⟨A, cc, rfl, hcc⟩ := hrs.form
 refine Ze fun _ hK1 => ?_
 refine Zr [] hf ?_
 refine Zq3 1 2 4 hf ?_
 clear hf s0 s1; intro fr1 hf sS
 obtain ⟨W0, hW0⟩ : ∃ x, (w.alloc (.cells #[.slice A ss.length cc, .int .u64 init] 38)).alloc (.cells #[.string ⟨#[]⟩, .int .u32 0, .bool false] 64) = x := ⟨_, rfl⟩
 obtain ⟨s1, s2, s4⟩ := sS
 try simp only [World.size_alloc] at s4
 rw [hW0]
 obtain ⟨hb, hp0, hp1⟩ := two_boxesT hW0
 clear hW0
 have c0 := cell_of_row _ _ 0 _ 38 (0, 0) hp0; have c1 := cell_of_row _ _ 1 _ 38 (0, 0) hp0
 simp at c0 c1
 replace hrs := hrs.later hb
 obtain ⟨q, hq⟩ : ∃ x, w.heap.size + 1 = x := ⟨_, rfl⟩
 have hwq : w.heap.size ≤ q := by omega
 rw [hq] at hp1 s4
 clear hq hp0
 refine Zt hK1 fun _ hK2 => ?_
 have bB := hf.B6 9 10 11 8 12 13
 iterate 2 refine Za ?_
 refine fp fun K Z => ?_
 go_simp
 go_at_call 126; refine (value126 W0 _ init ss s hrs hlen hok hfm h0 hin hss).mono ?_; rintro e w1 ⟨rfl, hb1⟩
 have hvl := valV_lt init ss s hok
 obtain ⟨v, hv⟩ : ∃ x, valV init ss s = x := ⟨_, rfl⟩
 rw [hv] at hvl ⊢
 have HG := Lib.hid (show getV init ss s = getE s v by unfold getV; rw [hv])
 replace hb := hb.trans (hb1.mono hb.size); replace hp1 := (hb1.block _ (heap_lt hp1)).trans hp1
 clear hv hrs c0 c1 hb1
 try dsimp only
 apply Z.out; clear Z K
 iterate 5 refine Za ?_
 refine Fact.nil (Zq4 1 4 6 7 hf ?_)
 clear hf s1 s2 s4 bB; intro fr1 hf sS
 refine Zx hK2 ?_
 rcases v with _ | v
 · (
 obtain ⟨s1, s4, s6, s7⟩ := sS
 simp only [Option.isSome_none] at s7
 refine Ze fun _ hK3 => ?_
 refine Ze fun _ hK4 => ?_
 refine Zr [14] hf ?_
 refine Zq4 1 4 6 15 hf ?_
 clear hf s1 s4 s6 s7; intro fr1 hf sS
 refine Zx hK4 ?_
 refine Fact.cond_t sS.2.2.2 ?_
 have r0 := cell_of_row _ _ 0 _ 64 (0, 0) hp1; have r1 := cell_of_row _ _ 1 _ 64 (0, 0) hp1; have r2 := cell_of_row _ _ 2 _ 64 (0, 0) hp1; have f0 := frozen_of (i := 0) hp1; have f1 := frozen_of (i := 1) hp1; have f2 := frozen_of (i := 2) hp1
 simp at r0 r1 r2
 refine Ze fun _ hK5 => ?_
 refine Zr [16] hf ?_
 refine Zq2 4 5 hf ?_
 clear hf sS; intro fr1 hf sS
 refine Zx hK5 ?_
 refine Zret ?_
 refine ret_ct rfl hf sS.1 sS.2 (set_block (set_block (set_block hp1 _) _) _) Tryz.underlying64 rfl (by kernel_rfl) ⟨by rw [HG.out]; simp [getE, eval], ((hb.setCell (p := ⟨q, 0, none⟩) hwq _).setCell (p := ⟨q, 1, none⟩) hwq _).setCell (p := ⟨q, 2, none⟩) hwq _⟩)
 · (
 obtain ⟨s1, s4, s6, s7⟩ := sS
 simp only [Option.isSome_some, Option.getD_some] at s6 s7
 have hvl2 : v < 18446744073709551616 := hvl v rfl
 refine Ze fun _ hK6 => ?_
 refine Ze fun _ hK7 => ?_
 refine Zr [14] hf ?_
 refine Zq4 1 4 6 15 hf ?_
 clear hf s1 s4 s6 s7; intro fr1 hf sS
 refine Zx hK7 ?_
 refine Fact.cond_f sS.2.2.2 ?_
 refine wp_skip ?_
 refine Zt hK6 fun _ hK8 => ?_
 have bB := hf.B5 17 18 19 20 21
 iterate 2 refine Za ?_
 refine fp fun K Z => ?_
 go_simp
 go_at_call 127; refine (of127 w1 s v hvl2).mono ?_; rintro e w2 ⟨rfl, hb2⟩
 obtain ⟨⟨oa, ob, oc⟩, ho⟩ : ∃ x, ofE s v = x := ⟨_, rfl⟩
 obtain ⟨oz, hz⟩ : ∃ x, ofB v = x := ⟨_, rfl⟩
 rw [ho, hz]
 simp only [eval]
 have HE := Lib.hid (show getE s (some v) = (⟨oa, ob, oc⟩, oz) by simp only [getE]; rw [ho, hz])
 replace hb := hb.trans (hb2.mono hb.size); replace hp1 := (hb2.block _ (heap_lt hp1)).trans hp1
 clear ho hz hb2
 have r0 := cell_of_row _ _ 0 _ 64 (0, 0) hp1; have r1 := cell_of_row _ _ 1 _ 64 (0, 0) hp1; have r2 := cell_of_row _ _ 2 _ 64 (0, 0) hp1; have f0 := frozen_of (i := 0) hp1; have f1 := frozen_of (i := 1) hp1; have f2 := frozen_of (i := 2) hp1
 simp at r0 r1 r2
 try dsimp only
 apply Z.out; clear Z K
 iterate 4 refine Za ?_
 refine Fact.nil (Zq2 4 5 hf ?_)
 clear hf sS bB; intro fr1 hf sS
 refine Zx hK8 ?_
 refine Zret ?_
 refine ret_ct rfl hf sS.1 sS.2 (set_block (set_block (set_block hp1 _) _) _) Tryz.underlying64 rfl (by kernel_rfl) ⟨by rw [HG.out, HE.out]; simp [eval], ((hb.setCell (p := ⟨q, 0, none⟩) hwq _).setCell (p := ⟨q, 1, none⟩) hwq _).setCell (p := ⟨q, 2, none⟩) hwq _⟩)
set_option maxHeartbeats 4000000 in
set_option maxRecDepth 100000 in
theorem rget42 (w : World) (sv : Value) (init : Nat) (ss : List State) (s : ByteArray) (hrs : RS w sv ss) (hlen : ss.length ≤ 1000000) (hok : ∀ s ∈ ss, okS s) (hfm : ∀ (k : Nat) (st : State), ss[k]? = some st → okArcs k (-1) st.arcs = true) (h0 : 0 < ss.length) (hin : init < M64) (hss : s.size ≤ 1000000000) : Calls Tryz.prog 42 #[.agg #[sv, .int .u64 init], .string s] w fun e w1 => e = .returned (.tuple #[eval (getV init ss s).1, .bool (getV init ss s).2]) ∧ Below w.heap.size w w1 := by
 refine Zn2 12 Tryz.func42 fun fr hf s0 s1 => ?_
 obtain ⟨A, cc, rfl, hcc⟩ := hrs.form
 refine Ze fun _ hK1 => ?_
 refine Zr [] hf ?_
 refine Zq3 1 2 4 hf ?_
 clear hf s0 s1; intro fr1 hf sS
 obtain ⟨W0, hW0⟩ : ∃ x, (w.alloc (.cells #[.slice A ss.length cc, .int .u64 init] 96)).alloc (.cells #[.string ⟨#[]⟩, .int .u32 0, .bool false] 64) = x := ⟨_, rfl⟩
 obtain ⟨s1, s2, s4⟩ := sS
 try simp only [World.size_alloc] at s4
 rw [hW0]
 obtain ⟨hb, hp0, hp1⟩ := two_boxesT hW0
 clear hW0
 have c0 := cell_of_row _ _ 0 _ 96 (0, 0) hp0; have c1 := cell_of_row _ _ 1 _ 96 (0, 0) hp0
 simp at c0 c1
 replace hrs := hrs.later hb
 obtain ⟨q, hq⟩ : ∃ x, w.heap.size + 1 = x := ⟨_, rfl⟩
 have hwq : w.heap.size ≤ q := by omega
 rw [hq] at hp1 s4
 clear hq hp0
 refine Zt hK1 fun _ hK2 => ?_
 have bB := hf.B6 6 7 8 9 10 11
 iterate 3 refine Za ?_
 refine fp fun K Z => ?_
 go_simp
 go_at_call 80; refine (get80 W0 _ init ss s hrs hlen hok hfm h0 hin hss).mono ?_; rintro e w1 ⟨rfl, hb1⟩
 obtain ⟨⟨⟨oa, ob, oc⟩, oz⟩, ho⟩ : ∃ x, getV init ss s = x := ⟨_, rfl⟩
 rw [ho]
 simp only [eval]
 have HG := Lib.hid ho
 replace hb := hb.trans (hb1.mono hb.size); replace hp1 := (hb1.block _ (heap_lt hp1)).trans hp1
 clear ho hb1 hrs
 have r0 := cell_of_row _ _ 0 _ 64 (0, 0) hp1; have r1 := cell_of_row _ _ 1 _ 64 (0, 0) hp1; have r2 := cell_of_row _ _ 2 _ 64 (0, 0) hp1; have f0 := frozen_of (i := 0) hp1; have f1 := frozen_of (i := 1) hp1; have f2 := frozen_of (i := 2) hp1
 simp at r0 r1 r2
 try dsimp only
 apply Z.out; clear Z K
 iterate 4 refine Za ?_
 refine Fact.nil (Zq2 4 5 hf ?_)
 clear hf s1 s2 s4 bB; intro fr1 hf sS
 refine Zx hK2 ?_
 refine Zret ?_
 refine ret_ct rfl hf sS.1 sS.2 (set_block (set_block (set_block hp1 _) _) _) Tryz.underlying64 rfl (by kernel_rfl) ⟨by rw [HG.out]; simp [eval], ((hb.setCell (p := ⟨q, 0, none⟩) hwq _).setCell (p := ⟨q, 1, none⟩) hwq _).setCell (p := ⟨q, 2, none⟩) hwq _⟩
set_option maxHeartbeats 4000000 in
set_option maxRecDepth 100000 in
theorem sget22 (w : World) (S init : Nat) (en sz : Int) (sv : Value) (hS : w.heap[S]? = some (.cells #[sv, .int .u64 init, .int .i64 en, .int .i64 sz] 98 (0, 0))) (ss : List State) (s : ByteArray) (hrs : RS w sv ss) (hlen : ss.length ≤ 1000000) (hok : ∀ s ∈ ss, okS s) (hfm : ∀ (k : Nat) (st : State), ss[k]? = some st → okArcs k (-1) st.arcs = true) (h0 : 0 < ss.length) (hin : init < M64) (hss : s.size ≤ 1000000000) : Calls Tryz.prog 22 #[.pointer (some ⟨S, 0, none⟩), .string s] w fun e w1 => e = .returned (.tuple #[eval (getV init ss s).1, .bool (getV init ss s).2]) ∧ Below w.heap.size w w1 := by
 refine Zn2 17 Tryz.func22 fun fr hf s0 s1 => ?_
 obtain ⟨A, cc, rfl, hcc⟩ := hrs.form
 have c0 := cell_of_row _ _ 0 _ 98 (0, 0) hS
 have c1 := cell_of_row _ _ 1 _ 98 (0, 0) hS
 have c2 := cell_of_row _ _ 2 _ 98 (0, 0) hS
 have c3 := cell_of_row _ _ 3 _ 98 (0, 0) hS
 simp at c0 c1 c2 c3
 refine Ze fun _ hK1 => ?_
 refine Zr [] hf ?_
 refine Zq3 0 1 4 hf ?_
 clear hf s0 s1; intro fr1 hf sS
 obtain ⟨W0, hW0⟩ : ∃ x, w.alloc (.cells #[.string ⟨#[]⟩, .int .u32 0, .bool false] 64) = x := ⟨_, rfl⟩
 rw [hW0]
 obtain ⟨hb, hp1⟩ := box_row hW0
 obtain ⟨q, hq⟩ : ∃ x, w.heap.size = x := ⟨_, rfl⟩
 have hwq : w.heap.size ≤ q := Nat.le_of_eq hq
 obtain ⟨s0, s1, s4⟩ := sS
 rw [hq] at hp1 s4
 replace hrs := hrs.later hb; replace c0 := cL hb c0; replace c1 := cL hb c1
 clear hq hW0 c2 c3
 refine Zs hK1 fun _ hK2 => ?_
 refine Ze fun _ hK3 => ?_
 refine Zr [6] hf ?_
 refine Zq4 0 1 4 7 hf ?_
 clear hf s0 s1 s4; intro fr1 hf sS
 refine Zx hK3 ?_
 refine Fact.cond_f sS.2.2.2 ?_
 refine wp_skip ?_
 refine Zt hK2 fun _ hK4 => ?_
 have bB := hf.B8 9 10 11 12 13 14 15 16
 iterate 5 refine Za ?_
 refine fp fun K Z => ?_
 go_simp
 go_at_call 42; refine (rget42 W0 _ init ss s hrs hlen hok hfm h0 hin hss).mono ?_; rintro e w1 ⟨rfl, hb1⟩
 obtain ⟨⟨⟨oa, ob, oc⟩, oz⟩, ho⟩ : ∃ x, getV init ss s = x := ⟨_, rfl⟩
 rw [ho]
 simp only [eval]
 have HG := Lib.hid ho
 replace hb := hb.trans (hb1.mono hb.size); replace hp1 := (hb1.block _ (heap_lt hp1)).trans hp1
 clear ho hb1 hrs
 have r0 := cell_of_row _ _ 0 _ 64 (0, 0) hp1; have r1 := cell_of_row _ _ 1 _ 64 (0, 0) hp1; have r2 := cell_of_row _ _ 2 _ 64 (0, 0) hp1; have f0 := frozen_of (i := 0) hp1; have f1 := frozen_of (i := 1) hp1; have f2 := frozen_of (i := 2) hp1
 simp at r0 r1 r2
 try dsimp only
 apply Z.out; clear Z K
 iterate 4 refine Za ?_
 refine Fact.nil (Zq2 4 5 hf ?_)
 clear hf sS bB; intro fr1 hf sS
 refine Zx hK4 ?_
 refine Zret ?_
 refine ret_ct rfl hf sS.1 sS.2 (set_block (set_block (set_block hp1 _) _) _) Tryz.underlying64 rfl (by kernel_rfl) ⟨by rw [HG.out]; simp [eval], ((hb.setCell (p := ⟨q, 0, none⟩) hwq _).setCell (p := ⟨q, 1, none⟩) hwq _).setCell (p := ⟨q, 2, none⟩) hwq _⟩
end Dw
end Go.Proofs.YtcddnmhmcieebaaGreatDoor

namespace Go.Proofs.YtcddnmhmcieebaaGreatDoor
open Go.RowKit
set_option linter.unusedSimpArgs false
set_option linter.unusedVariables false
set_option linter.unnecessarySimpa false
namespace Dw

theorem RE.lit {w W : World} {A : Array Value} {t : TypeId} (h : w.alloc (.cells A t) = W) (l : List Ent) (hA : A.toList = ecs l) : Below w.heap.size w W ∧ RE W W.heap.size (.slice (some ⟨w.heap.size, 0, none⟩) l.length l.length) l := by
  obtain ⟨h1, h2, h3⟩ := lit_cells h
  exact ⟨h1, _, _, rfl, Nat.le_refl _, fun _ => ⟨_, _, rfl, by omega, fun j u hu => h2 j u (by rw [hA]; exact hu)⟩⟩
def wkE : List Ent := [⟨⟨#[97]⟩, 1, false⟩, ⟨⟨#[98]⟩, 0, true⟩]
def wkI : Nat := (buildF wkE).init
def wkS : List State := (buildF wkE).states
theorem wk_may (en : Int) (h : (mayF en wkS) = true) : (putR en wkI wkS).2 = 0 := by unfold putR; rw [if_pos h]
theorem wk_ok : ∀ s ∈ wkS, okS s := okS_all _ (by kernel_rfl)
theorem wk_make : makeV wkE = (bl (putR 2 wkI wkS).1, 0) := by
  unfold makeV
  rw [if_neg (by decide), if_neg (by rw [show chkN wkE = 0 by kernel_rfl]; simp)]
  exact Prod.ext rfl (wk_may 2 (by kernel_rfl))
theorem wk_get (en : Nat) (h : mayF en wkS = true) : pGet (bl (putR en wkI wkS).1) = .ok (en, wkI, wkS) := by
  have := pGet_put (en := (en : Int)) (init := wkI) h wk_ok (Nat.le_of_ble_eq_true (by kernel_rfl)) (Nat.le_of_ble_eq_true (by kernel_rfl))
  simpa using this
theorem wk_formed : ∀ (k : Nat) (st : State), wkS[k]? = some st → okArcs k (-1) st.arcs = true := fun k st hk => formed_at (show formedF wkS = true by kernel_rfl) hk
theorem wk_right2 : rightS 2 wkS wkI = true := by kernel_rfl
theorem wk_right3 : rightS 3 wkS wkI = false := by kernel_rfl
theorem wk_a : getV wkI wkS ⟨#[97]⟩ = (⟨⟨#[97]⟩, 1, false⟩, true) := by kernel_rfl
theorem wk_b : getV wkI wkS ⟨#[98]⟩ = (⟨⟨#[98]⟩, 0, true⟩, true) := by kernel_rfl
theorem wk_c : getV wkI wkS ⟨#[99]⟩ = (⟨⟨#[]⟩, 0, false⟩, false) := by kernel_rfl
theorem wk_order : makeV [⟨⟨#[98]⟩, 1, false⟩, ⟨⟨#[97]⟩, 1, false⟩] = (⟨#[]⟩, 15) := by kernel_rfl
theorem wk_nil : makeV [] = (⟨#[]⟩, 2) := by kernel_rfl
theorem wk_none : openV ⟨#[]⟩ = false := by kernel_rfl
theorem wk_size (en : Nat) (h : mayF en wkS = true) (h2 : (putR en wkI wkS).1.length ≤ 1000) : (bl (putR en wkI wkS).1).size ≤ 900000000 := by
  rw [bl_size]; omega

theorem wk_okE : ∀ e ∈ wkE, okE e := by
  intro e he
  simp only [wkE, List.mem_cons, List.not_mem_nil, or_false] at he
  rcases he with rfl | rfl <;> (unfold okE; decide)
theorem wk_len : wkS.length ≤ 100000 := Nat.le_of_ble_eq_true (by kernel_rfl)
theorem wk_pos : 0 < wkS.length := Nat.lt_of_lt_of_le (Nat.zero_lt_one) (Nat.le_of_ble_eq_true (by kernel_rfl))
theorem wk_init : wkI < 18446744073709551616 := Nat.le_of_ble_eq_true (by kernel_rfl)
theorem wk_initE : (buildF wkE).init < 18446744073709551616 := wk_init
theorem wk_initN : (buildF []).init < 18446744073709551616 := Nat.le_of_ble_eq_true (by kernel_rfl)
theorem wk_few : ∀ s ∈ wkS, s.arcs.length ≤ 1000 := few_all _ (by kernel_rfl)
theorem wk_sz (en : Nat) (h : mayF en wkS = true) (h2 : Nat.ble (putR en wkI wkS).1.length 1000 = true) : (bl (putR en wkI wkS).1).size ≤ 900000000 := wk_size en h (Nat.le_of_ble_eq_true h2)
theorem wk_hlen (en : Nat) (h : mayF en wkS = true) : ∀ en2 init ss, pGet (bl (putR en wkI wkS).1) = .ok (en2, init, ss) → ss.length ≤ 1000000 := by
  intro en2 init ss h2
  rw [wk_get en h] at h2
  cases h2
  exact Nat.le_trans wk_len (by omega)
theorem wk_open {w w1 : World} {e : Ending} {s : ByteArray} (hs : bl (putR 2 wkI wkS).1 = s) (h : OpenR w w1 e s) : ∃ S sv, e = .returned (.tuple #[.pointer (some ⟨S, 0, none⟩), .int .i64 0]) ∧ w1.heap[S]? = some (.cells #[sv, .int .u64 wkI, .int .i64 (2 : Nat), .int .i64 s.size] 98 (0, 0)) ∧ RS w1 sv wkS ∧ Below w.heap.size w w1 := by
  subst hs
  unfold OpenR at h
  have hg := wk_get 2 (by kernel_rfl)
  rw [show ((2 : Nat) : Int) = 2 from rfl] at hg
  rw [hg] at h
  simp only at h
  rw [show rightS ((2 : Nat) : Int) wkS wkI = true from wk_right2] at h
  obtain ⟨S, sv, h1, _, h2, h3, h4⟩ := h
  exact ⟨S, sv, h1, h2, h3, h4⟩
theorem wk_bad : openV (bl (putR 3 wkI wkS).1) = false := by
  unfold openV
  have hg := wk_get 3 (by kernel_rfl)
  rw [show ((3 : Nat) : Int) = 3 from rfl] at hg
  rw [hg]
  exact wk_right3
attribute [local irreducible] wkI wkS putR makeV getV openV buildF rightS
set_option maxHeartbeats 4000000 in
set_option maxRecDepth 100000 in
theorem works8 (w : World)  : Calls Tryz.prog 8 #[] w fun e w1 => e = .returned (.bool true) ∧ Below w.heap.size w w1 := by
 refine Zn0 113 Tryz.func8 fun fr hf => ?_
 have hbt := Below.refl w.heap.size w
 refine Ze fun _ hK1 => ?_
 refine Zr [] hf ?_
 refine Zq0 hf ?_
 clear hf; intro fr1 hf
 refine Zt hK1 fun _ hK2 => ?_
 have bB := hf.B7 18 19 20 21 17 22 23
 iterate 2 refine Za ?_
 refine fp fun K Z => ?_
 go_simp
 obtain ⟨V1, hV1⟩ : ∃ x, World.alloc w (.cells #[.string ⟨#[97]⟩, .int .u32 1, .bool false, .string ⟨#[98]⟩, .int .u32 0, .bool true] 64) = x := ⟨_, rfl⟩
 rw [hV1]
 obtain ⟨bV1, x20⟩ := RE.lit hV1 [⟨⟨#[97]⟩, 1, false⟩, ⟨⟨#[98]⟩, 0, true⟩] rfl
 replace hbt := hbt.trans (bV1.mono hbt.size)
 clear hV1
 apply Z.out; clear Z K
 refine fp fun K Z => ?_
 go_simp
 go_at_call 9; refine (make9 V1 wkE V1.heap.size _ (Nat.le_refl _) x20 (by decide) wk_okE wk_initE).mono ?_; rintro e w1 ⟨rfl, hb1⟩
 rw [wk_make]
 obtain ⟨SA, hSA⟩ : ∃ x, bl (putR 2 wkI wkS).1 = x := ⟨_, rfl⟩
 rw [hSA]
 have HSA := Lib.hid hSA; clear hSA
 replace hbt := hbt.trans (hb1.mono hbt.size)
 replace x20 := (x20.below hb1).any
 dsimp only
 try dsimp only
 apply Z.out; clear Z K
 iterate 5 refine Za ?_
 refine Fact.nil (Zq2 1 2 hf ?_)
 clear hf bB; intro fr1 hf sS
 refine Zt hK2 fun _ hK3 => ?_
 have bB := hf.B5 25 26 24 27 28
 refine Za ?_
 refine fp fun K Z => ?_
 go_simp
 go_at_call 15; refine (open15 w1 SA (by rw [← HSA.out]; exact wk_sz 2 (by kernel_rfl) (by kernel_rfl)) (by rw [← HSA.out]; exact wk_hlen 2 (by kernel_rfl))).mono ?_; rintro e w2 hop
 obtain ⟨S, sv, rfl, hS, hrs, hb2⟩ := wk_open HSA.out hop
 replace hbt := hbt.trans (hb2.mono hbt.size)
 clear hb2
 try dsimp only
 apply Z.out; clear Z K
 iterate 5 refine Za ?_
 refine Fact.nil (Zq3 2 3 4 hf ?_)
 clear hf sS bB; intro fr1 hf sS
 refine Zs hK3 fun _ hK4 => ?_
 refine Ze fun _ hK5 => ?_
 refine Zr [29, 30, 31, 32, 33, 34, 35, 36, 37] hf ?_
 refine Zq2 3 38 hf ?_
 clear hf sS; intro fr1 hf sS
 refine Zx hK5 ?_
 refine Fact.cond_f sS.2 ?_
 refine wp_skip ?_
 refine Zt hK4 fun _ hK6 => ?_
 have bB := hf.B6 40 41 39 42 43 5
 refine Za ?_
 refine fp fun K Z => ?_
 go_simp
 go_at_call 22; refine (sget22 w2 S wkI 2 SA.size sv hS wkS ⟨#[97]⟩ hrs (Nat.le_trans wk_len (by omega)) wk_ok wk_formed wk_pos wk_init (by decide)).mono ?_; rintro e w5 ⟨rfl, hb5⟩
 rw [wk_a]
 simp only [eval]
 replace hbt := hbt.trans (hb5.mono hbt.size)
 replace hS := (hb5.block _ (heap_lt hS)).trans hS
 replace hrs := hrs.later hb5
 clear hb5
 try dsimp only
 apply Z.out; clear Z K
 iterate 6 refine Za ?_
 refine Fact.nil (Zq3 3 5 6 hf ?_)
 clear hf sS bB; intro fr1 hf sS
 obtain ⟨V5x, hV5x⟩ : ∃ W0, w5.alloc (.cells #[.string ⟨#[97]⟩, .int .u32 1, .bool false] 64) = W0 := ⟨_, rfl⟩
 try rw [hV5x]
 obtain ⟨hbV5x, e5, f5, g5, -, -⟩ := box3 hV5x
 clear hV5x
 replace hbt := hbt.trans (hbV5x.mono hbt.size)
 replace hS := (hbV5x.block _ (heap_lt hS)).trans hS
 replace hrs := hrs.later hbV5x
 clear hbV5x
 refine Zt hK6 fun _ hK7 => ?_
 have bB := hf.B6 45 46 44 47 48 7
 refine Za ?_
 refine fp fun K Z => ?_
 go_simp
 go_at_call 22; refine (sget22 V5x S wkI 2 SA.size sv hS wkS ⟨#[98]⟩ hrs (Nat.le_trans wk_len (by omega)) wk_ok wk_formed wk_pos wk_init (by decide)).mono ?_; rintro e w6 ⟨rfl, hb6⟩
 rw [wk_b]
 simp only [eval]
 replace hbt := hbt.trans (hb6.mono hbt.size)
 replace hS := (hb6.block _ (heap_lt hS)).trans hS
 replace hrs := hrs.later hb6
 replace f5 := cL hb6 f5
 replace g5 := cL hb6 g5
 clear hb6
 try dsimp only
 apply Z.out; clear Z K
 iterate 6 refine Za ?_
 refine Fact.nil (Zq5 3 5 6 7 8 hf ?_)
 clear hf sS bB; intro fr1 hf sS
 obtain ⟨V6x, hV6x⟩ : ∃ W0, w6.alloc (.cells #[.string ⟨#[98]⟩, .int .u32 0, .bool true] 64) = W0 := ⟨_, rfl⟩
 try rw [hV6x]
 obtain ⟨hbV6x, e6, f6, g6, -, -⟩ := box3 hV6x
 clear hV6x
 replace hbt := hbt.trans (hbV6x.mono hbt.size)
 replace hS := (hbV6x.block _ (heap_lt hS)).trans hS
 replace hrs := hrs.later hbV6x
 replace f5 := cL hbV6x f5
 replace g5 := cL hbV6x g5
 clear hbV6x
 refine Zt hK7 fun _ hK8 => ?_
 have bB := hf.B6 50 51 49 52 53 9
 refine Za ?_
 refine fp fun K Z => ?_
 go_simp
 go_at_call 22; refine (sget22 V6x S wkI 2 SA.size sv hS wkS ⟨#[99]⟩ hrs (Nat.le_trans wk_len (by omega)) wk_ok wk_formed wk_pos wk_init (by decide)).mono ?_; rintro e w7 ⟨rfl, hb7⟩
 rw [wk_c]
 simp only [eval]
 replace hbt := hbt.trans (hb7.mono hbt.size)
 replace hS := (hb7.block _ (heap_lt hS)).trans hS
 replace hrs := hrs.later hb7
 replace f5 := cL hb7 f5
 replace g5 := cL hb7 g5
 replace f6 := cL hb7 f6
 replace g6 := cL hb7 g6
 clear hb7
 try dsimp only
 apply Z.out; clear Z K
 iterate 6 refine Za ?_
 refine Fact.nil (Zq6 3 5 6 7 8 10 hf ?_)
 clear hf sS bB; intro fr1 hf sS
 obtain ⟨V7x, hV7x⟩ : ∃ W0, w7.alloc (.cells #[.string ⟨#[]⟩, .int .u32 0, .bool false] 64) = W0 := ⟨_, rfl⟩
 try rw [hV7x]
 obtain ⟨hbV7x, e7, f7, g7, -, -⟩ := box3 hV7x
 clear hV7x
 replace hbt := hbt.trans (hbV7x.mono hbt.size)
 replace hS := (hbV7x.block _ (heap_lt hS)).trans hS
 replace hrs := hrs.later hbV7x
 replace f5 := cL hbV7x f5
 replace g5 := cL hbV7x g5
 replace f6 := cL hbV7x f6
 replace g6 := cL hbV7x g6
 clear hbV7x
 refine Zt hK8 fun _ hK9 => ?_
 have bB := hf.B4 55 54 56 57
 refine fp fun K Z => ?_
 go_simp
 go_at_call 9; refine (make9 V7x [] V7x.heap.size _ (Nat.le_refl _) (OE.nil_ V7x 0).re (by decide) (fun _ h => absurd h (by simp)) wk_initN).mono ?_; rintro e w8 ⟨rfl, hb8⟩
 rw [wk_nil]
 replace hbt := hbt.trans (hb8.mono hbt.size)
 replace hS := (hb8.block _ (heap_lt hS)).trans hS
 replace hrs := hrs.later hb8
 replace f5 := cL hb8 f5
 replace g5 := cL hb8 g5
 replace f6 := cL hb8 f6
 replace g6 := cL hb8 g6
 replace f7 := cL hb8 f7
 replace g7 := cL hb8 g7
 dsimp only
 try dsimp only
 apply Z.out; clear Z K
 iterate 5 refine Za ?_
 refine Fact.nil (Zq7 3 5 6 7 8 10 12 hf ?_)
 clear hf sS bB; intro fr1 hf sS
 refine Zt hK9 fun _ hK10 => ?_
 have bB := hf.B7 59 60 61 62 58 63 64
 iterate 2 refine Za ?_
 refine fp fun K Z => ?_
 go_simp
 obtain ⟨V2, hV2⟩ : ∃ x, World.alloc w8 (.cells #[.string ⟨#[98]⟩, .int .u32 1, .bool false, .string ⟨#[97]⟩, .int .u32 1, .bool false] 64) = x := ⟨_, rfl⟩
 rw [hV2]
 obtain ⟨bV2, x61⟩ := RE.lit hV2 [⟨⟨#[98]⟩, 1, false⟩, ⟨⟨#[97]⟩, 1, false⟩] rfl
 replace hbt := hbt.trans (bV2.mono hbt.size)
 replace hS := (bV2.block _ (heap_lt hS)).trans hS
 replace hrs := hrs.later bV2
 replace f5 := cL bV2 f5
 replace g5 := cL bV2 g5
 replace f6 := cL bV2 f6
 replace g6 := cL bV2 g6
 replace f7 := cL bV2 f7
 replace g7 := cL bV2 g7
 clear hV2
 apply Z.out; clear Z K
 refine fp fun K Z => ?_
 go_simp
 go_at_call 9; refine (make9 V2 [⟨⟨#[98]⟩, 1, false⟩, ⟨⟨#[97]⟩, 1, false⟩] V2.heap.size _ (Nat.le_refl _) x61 (by decide) (fun e he => by simp only [List.mem_cons, List.not_mem_nil, or_false] at he; rcases he with rfl | rfl <;> (unfold okE; decide)) (Nat.le_of_ble_eq_true (by kernel_rfl))).mono ?_; rintro e w9 ⟨rfl, hb9⟩
 rw [wk_order]
 replace hbt := hbt.trans (hb9.mono hbt.size)
 replace hS := (hb9.block _ (heap_lt hS)).trans hS
 replace hrs := hrs.later hb9
 replace f5 := cL hb9 f5
 replace g5 := cL hb9 g5
 replace f6 := cL hb9 f6
 replace g6 := cL hb9 g6
 replace f7 := cL hb9 f7
 replace g7 := cL hb9 g7
 replace x61 := (x61.below hb9).any
 dsimp only
 try dsimp only
 apply Z.out; clear Z K
 iterate 5 refine Za ?_
 refine Fact.nil (Zq8 3 5 6 7 8 10 12 14 hf ?_)
 clear hf sS bB; intro fr1 hf sS
 refine Zx hK10 ?_
 obtain ⟨Ay, ny, rfl, hny⟩ := hrs.form
 refine Ze fun _ hK11 => rg ?_
 have bB := hf.B6 66 67 68 65 69 70
 refine Za ?_
 refine fp fun K Z => ?_
 go_simp
 go_at_call 26; refine (fst26 w9 S (.slice Ay wkS.length ny) wkI 2 SA.size hS ⟨_, _, _, rfl⟩).mono ?_; rintro e w10 ⟨rfl, hb10⟩
 replace hbt := hbt.trans (hb10.mono hbt.size)
 replace hS := (hb10.block _ (heap_lt hS)).trans hS
 replace hrs := hrs.later hb10
 replace f5 := cL hb10 f5
 replace g5 := cL hb10 g5
 replace f6 := cL hb10 f6
 replace g6 := cL hb10 g6
 replace f7 := cL hb10 f7
 replace g7 := cL hb10 g7
 try dsimp only
 apply Z.out; clear Z K
 refine fp fun K Z => ?_
 go_simp
 go_at_call 14; refine (put14 w10 3 (.slice Ay wkS.length ny) wkI wkS hrs wk_ok wk_len wk_few wk_init).mono ?_; rintro e w11 ⟨rfl, hb11⟩
 rw [wk_may 3 (by kernel_rfl)]
 obtain ⟨SB, hSB⟩ : ∃ x, bl (putR 3 wkI wkS).1 = x := ⟨_, rfl⟩
 rw [hSB]
 have HSB := Lib.hid hSB; clear hSB
 replace hbt := hbt.trans (hb11.mono hbt.size)
 replace hS := (hb11.block _ (heap_lt hS)).trans hS
 replace hrs := hrs.later hb11
 replace f5 := cL hb11 f5
 replace g5 := cL hb11 g5
 replace f6 := cL hb11 f6
 replace g6 := cL hb11 g6
 replace f7 := cL hb11 f7
 replace g7 := cL hb11 g7
 try dsimp only
 apply Z.out; clear Z K
 iterate 5 refine Za ?_
 refine Fact.nil (Zq9 3 5 6 7 8 10 12 14 15 hf ?_)
 clear hf sS bB; intro fr1 hf sS
 refine Zx hK11 ?_
 have q1 : decide (0 < SB.size) = true := decide_eq_true (by have := HSB.out; rw [← this, bl_size]; exact Nat.lt_of_lt_of_le Nat.zero_lt_one (Nat.le_of_ble_eq_true (by kernel_rfl)))
 refine Ze fun _ hK12 => rg ?_
 have bB := And.intro (hf.B10 71 72 73 74 75 76 77 78 79 80) (And.intro (hf.B10 81 82 83 84 85 86 87 88 89 90) (And.intro (hf.B10 91 92 93 94 95 96 97 98 99 100) (And.intro (hf.B10 101 102 103 104 105 106 107 108 109 110) (hf.B2 111 112))))
 refine Za ?_
 refine fp fun K Z => ?_
 go_simp
 go_at_call 19; refine (len19 w11 S (.slice Ay wkS.length ny) wkI 2 SA.size hS).mono ?_; rintro e v1 ⟨rfl, hc1⟩
 replace hbt := hbt.trans (hc1.mono hbt.size)
 replace hS := (hc1.block _ (heap_lt hS)).trans hS
 replace hrs := hrs.later hc1
 replace f5 := cL hc1 f5
 replace g5 := cL hc1 g5
 replace f6 := cL hc1 f6
 replace g6 := cL hc1 g6
 replace f7 := cL hc1 f7
 replace g7 := cL hc1 g7
 try dsimp only
 apply Z.out; clear Z K
 iterate 2 refine Za ?_
 refine Zg ?_ (hv := by simp (decide := true) only [Fact.G, reduceIte, hf.size, q1])
 iterate 2 refine Za ?_
 refine Zg ?_ (hv := by simp (decide := true) only [Fact.G, reduceIte, hf.size, q1])
 refine Zg ?_ (hv := by simp (decide := true) only [Fact.G, reduceIte, hf.size, q1])
 refine Zg ?_ (hv := by simp (decide := true) only [Fact.G, reduceIte, hf.size, q1])
 iterate 2 refine Za ?_
 refine Zg ?_ (hv := by simp (decide := true) only [Fact.G, reduceIte, hf.size, q1])
 iterate 2 refine Za ?_
 refine Zg ?_ (hv := by simp (decide := true) only [Fact.G, reduceIte, hf.size, q1])
 refine Zg ?_ (hv := by simp (decide := true) only [Fact.G, reduceIte, hf.size, q1])
 iterate 2 refine Za ?_
 refine Zg ?_ (hv := by simp (decide := true) only [Fact.G, reduceIte, hf.size, q1])
 refine Zg ?_ (hv := by simp (decide := true) only [Fact.G, reduceIte, hf.size, q1])
 iterate 2 refine Za ?_
 refine Zg ?_ (hv := by simp (decide := true) only [Fact.G, reduceIte, hf.size, q1])
 refine Zg ?_ (hv := by simp (decide := true) only [Fact.G, reduceIte, hf.size, q1])
 iterate 2 refine Za ?_
 refine Zg ?_ (hv := by simp (decide := true) only [Fact.G, reduceIte, hf.size, q1])
 refine Zg ?_ (hv := by simp (decide := true) only [Fact.G, reduceIte, hf.size, q1])
 iterate 2 refine Za ?_
 refine og 30 101 true ?_ fun K Z => ?_
 · (
 simp (decide := true) only [Fact.G, reduceIte, hf.size, q1])
 go_simp
 go_at_call 11; refine (corrupt11 v1 ⟨#[]⟩ (by decide) (fun en init ss h => by rw [show pGet ⟨#[]⟩ = .error (16, 0) by kernel_rfl] at h; cases h)).mono ?_; rintro e v31 ⟨rfl, hc31⟩
 rw [wk_none]
 replace hbt := hbt.trans (hc31.mono hbt.size)
 replace hS := (hc31.block _ (heap_lt hS)).trans hS
 replace hrs := hrs.later hc31
 replace f5 := cL hc31 f5
 replace g5 := cL hc31 g5
 replace f6 := cL hc31 f6
 replace g6 := cL hc31 g6
 replace f7 := cL hc31 f7
 replace g7 := cL hc31 g7
 try dsimp only
 apply Z.out; clear Z K
 iterate 2 refine Za ?_
 refine Zg ?_ (hv := by simp (decide := true) only [Fact.G, reduceIte, hf.size, q1])
 refine Zg ?_ (hv := by simp (decide := true) only [Fact.G, reduceIte, hf.size, q1])
 refine Zg ?_ (hv := by simp (decide := true) only [Fact.G, reduceIte, hf.size, q1])
 iterate 2 refine Za ?_
 refine Zg ?_ (hv := by simp (decide := true) only [Fact.G, reduceIte, hf.size, q1])
 refine og 38 109 true ?_ fun K Z => ?_
 · (
 simp (decide := true) only [Fact.G, reduceIte, hf.size, q1])
 go_simp
 go_at_call 11; refine (corrupt11 v31 SB (by rw [← HSB.out]; exact wk_sz 3 (by kernel_rfl) (by kernel_rfl)) (by rw [← HSB.out]; exact wk_hlen 3 (by kernel_rfl))).mono ?_; rintro e v40 ⟨rfl, hc40⟩
 have hob : openV SB = false := by rw [← HSB.out]; exact wk_bad
 rw [hob]
 replace hbt := hbt.trans (hc40.mono hbt.size)
 replace hS := (hc40.block _ (heap_lt hS)).trans hS
 replace hrs := hrs.later hc40
 replace f5 := cL hc40 f5
 replace g5 := cL hc40 g5
 replace f6 := cL hc40 f6
 replace g6 := cL hc40 g6
 replace f7 := cL hc40 f7
 replace g7 := cL hc40 g7
 try dsimp only
 apply Z.out; clear Z K
 iterate 2 refine Za ?_
 refine Fact.nil (Zq1 0 hf ?_)
 clear hf sS bB; intro fr1 hf s0
 refine Zx hK12 ?_
 refine Zret ?_
 exact Fact.ret1 rfl hf s0 ⟨rfl, hbt⟩
end Dw
end Go.Proofs.YtcddnmhmcieebaaGreatDoor
