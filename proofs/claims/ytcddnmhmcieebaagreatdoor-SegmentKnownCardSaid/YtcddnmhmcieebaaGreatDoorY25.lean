/- law16: SegmentKnown, its plain values. -/
import Derived.Test.YtcddnmhmcieebaaGreatDoorY23
import Derived.Test.YtcddnmhmcieebaaGreatDoorY24
import Derived.Test.YtcddnmhmcieebaaGreatDoorY15
import Derived.Test.YtcddnmhmcieebaaGreatDoorY17
import Derived.Test.YtcddnmhmcieebaaGreatDoorShelf3
import Derived.Test.YtcddnmhmcieebaaGreatDoorY9
import Derived.Test.YtcddnmhmcieebaaGreatDoorTools
namespace Go.Proofs.YtcddnmhmcieebaaGreatDoor
open Go.RowKit
set_option linter.unusedSimpArgs false
set_option linter.unusedVariables false
set_option linter.unnecessarySimpa false
namespace Dw
def chainS : Nat -> List State
 | 0 => [⟨true, 0, []⟩]
 | n + 1 => chainS n ++ [⟨false, 0, [⟨97, 0, n⟩]⟩]
theorem chainS_len : ∀ n, (chainS n).length = n + 1
 | 0 => rfl
 | n + 1 => by rw [chainS, List.length_append, chainS_len n]; rfl
theorem chainS_take (n : Nat) : (chainS (n + 1)).take (n + 1) = chainS n := by
 rw [chainS, List.take_append_of_le_length (by rw [chainS_len]; omega), List.take_of_length_le (by rw [chainS_len]; omega)]
theorem RS.take {w : World} {A : Option Addr} {n c m : Nat} {ss : List State} (h : RS w (.slice A n c) ss) (hm : m <= n) : RS w (.slice A m c) (ss.take m) := by
 obtain ⟨A', c', h1, h2, h3⟩ := h
 injection h1 with h1 h4 h5
 subst h1; subst h5
 have hl : (ss.take m).length = m := by rw [List.length_take]; omega
 refine ⟨A, c, by rw [hl], by omega, fun h0 => ?_⟩
 obtain ⟨b, off, h6, h7⟩ := h3 (by omega)
 exact ⟨b, off, h6, fun i s hi => h7 i s (by
  rw [List.getElem?_take] at hi
  split at hi
  ·exact hi
  ·cases hi)⟩
theorem sr_one {w W : World} {b : Bool} {o : Nat} (C : Nat -> Prop) (h : w.alloc (.cells #[.slice none 0 0, .bool b, .int .u64 o] 46) = W) : SR W w.heap.size C (.slice (some ⟨w.heap.size, 0, none⟩) 1 1) [(.slice none 0 0, ⟨b, o, []⟩)] /\ Below w.heap.size w W /\ W.heap.size = w.heap.size + 1 := by
 subst h
 refine ⟨⟨⟨rfl, .inr ⟨_, 1, _, rfl, Nat.le_refl _, heap_alloc_new w _, Nat.le_refl _, by decide, rfl, rfl⟩⟩, fun x hx => ?_⟩, (Below.refl _ _).alloc (Nat.le_refl _) _, by simp⟩
 simp at hx
 subst hx
 exact RA.nil_
theorem sr_app {W V' : World} {base B5 ga : Nat} {C : Nat -> Prop} {v v3 av : Value} {st : State} {l : List (Value × State)} (hsr : SR W base C v l) (hC : ∀ k, C k -> k < W.heap.size /\ k ≠ B5 /\ v.ownBlock ≠ some k) (hra : RA W (fun k => k = ga) av st.arcs) (hga : ga < W.heap.size /\ ga ≠ B5 /\ v.ownBlock ≠ some ga)
  (hr3 : V'.ownsRow base 46 3 v3 (l.length + 1) (scs l ++ [av, .bool st.final, .int .u64 st.out])) (hg3 : W.grownBy V' v.ownBlock) (hat : v3.ownBlock = v.ownBlock \/ v3.ownBlock = some W.heap.size) : ∃ C', SR V' base C' v3 (l ++ [(av, st)]) /\ ∀ k, C' k -> k < V'.heap.size /\ k ≠ B5 /\ v3.ownBlock ≠ some k := by
 have hb : But (fun k => v.ownBlock = some k) W V' := But.grown hg3 (fun k hk => hk)
 refine ⟨fun k => C k \/ k = ga, ⟨by rw [List.length_append, scs_append]; exact hr3, fun x hx => ?_⟩, fun k hk => ?_⟩
 ·rcases List.mem_append.1 hx with hx | hx
  ·exact ((hsr.arcs x hx).but hb (fun k hk h => (hC k hk).2.2 h)).more (fun k _ hk => .inl hk)
  ·simp at hx
   subst hx
   exact (hra.but hb (fun k hk h => by rw [hk] at h; exact hga.2.2 h)).more (fun k _ hk => .inr hk)
 ·have h1 : k < W.heap.size /\ k ≠ B5 /\ v.ownBlock ≠ some k := by rcases hk with hk | hk; exact hC k hk; rw [hk]; exact hga
  refine ⟨Nat.lt_of_lt_of_le h1.1 hb.size, h1.2.1, ?_⟩
  rcases hat with e | e
  ·rw [e]; exact h1.2.2
  ·rw [e]; intro e2; injection e2 with e2; omega
theorem ra_one {w W : World} {b o : Nat} {t : Int} (h : w.alloc (.cells #[.int .u8 b, .int .u64 o, .int .i64 t] 71) = W) : RA W (fun k => k = w.heap.size) (.slice (some ⟨w.heap.size, 0, none⟩) 1 1) [⟨b, o, t⟩] /\ Below w.heap.size w W /\ W.heap.size = w.heap.size + 1 := by
 subst h
 refine ⟨⟨_, _, rfl, Nat.le_refl _, fun _ => ⟨_, _, rfl, rfl, fun j u hu => ?_⟩⟩, (Below.refl _ _).alloc (Nat.le_refl _) _, by simp⟩
 have h := lit_new w [.int .u8 b, .int .u64 o, .int .i64 t] 71 j u (by simpa [acs, Arc.cells] using hu)
 simpa using h
structure PutK (n init : Nat) (ss : List State) (S : ByteArray) : Prop where
 get : pGet S = .ok (n, init, ss)
 sz : S.size <= 900000000
 len : ss.length <= 1000000
theorem putK {n init : Nat} {ss : List State} (hm : mayF n ss = true) (ho : ss.all okSb = true) (hl : ss.length <= 100000) (hn : n <= 100000) (hi : init < 18446744073709551616) : PutK n init ss (bl (putR n init ss).1) := by
 refine ⟨by have := pGet_put hm (okS_all _ ho) (by omega) hi; rwa [Int.toNat_natCast] at this, ?_, by omega⟩
 have h := body_size (n := n) (i := init) (okS_all _ ho) hl hn hm hi
 rw [bl_size, show (putR n init ss).1 = Crc.seal' (bodyB n init ss) by unfold putR; rw [if_pos hm]; rfl, Crc.seal_length]
 omega
theorem PutK.hlen {n init : Nat} {ss : List State} {S : ByteArray} (h : PutK n init ss S) : ∀ en i s2, pGet S = .ok (en, i, s2) -> s2.length <= 1000000 := fun en i s2 h2 => by rw [h.get] at h2; cases h2; exact h.len
theorem PutK.opv {n init : Nat} {ss : List State} {S : ByteArray} {b : Bool} (h : PutK n init ss S) (hr : rightS n ss init = b) : openV S = b := by unfold openV; rw [h.get]; exact hr
theorem PutK.opened {n init : Nat} {ss : List State} {S : ByteArray} {w w1 : World} {e : Ending} (hk : PutK n init ss S) (hr : rightS n ss init = true) (h : OpenR w w1 e S) : ∃ Q sv, e = .returned (.tuple #[.pointer (some ⟨Q, 0, none⟩), .int .i64 0]) /\ w1.heap[Q]? = some (.cells #[sv, .int .u64 init, .int .i64 n, .int .i64 S.size] 98 (0, 0)) /\ RS w1 sv ss /\ Below w.heap.size w w1 := by
 unfold OpenR at h
 rw [hk.get] at h
 simp only at h
 rw [hr] at h
 obtain ⟨Q, sv, h1, _, h2, h3, h4⟩ := h
 exact ⟨Q, sv, h1, h2, h3, h4⟩
theorem kn_code {n : Int} {i : Nat} {f : List State} (h : mayF n f = true) : (putR n i f).2 = 0 := by unfold putR; rw [if_pos h]
theorem kn_okAll (n : Nat) (h : n <= 1000) : (chainS n).all okSb = true := by
 induction n with
 | zero => kernel_rfl
 | succ n ih =>
  rw [chainS, List.all_append, ih (by omega)]
  simp only [List.all_cons, List.all_nil, Bool.and_true, Bool.true_and]
  unfold okSb
  simp [okAb]
  omega
def knA : List State := (chainS 256)
theorem knA_may : mayF 1 knA = true := by kernel_rfl
theorem knA_right : rightS 1 knA 0 = false := by kernel_rfl
theorem knA_okb : knA.all okSb = true := kn_okAll _ (by decide)
theorem knA_len : knA.length <= 100000 := by rw [show knA.length = _ from chainS_len _]; decide
theorem knA_put : PutK 1 0 knA (bl (putR 1 0 knA).1) := putK (n := 1) knA_may knA_okb knA_len (by decide) (by decide)
def knB : List State := (chainS 255)
theorem knB_may : mayF 1 knB = true := by kernel_rfl
theorem knB_right : rightS 1 knB 0 = true := by kernel_rfl
theorem knB_okb : knB.all okSb = true := kn_okAll _ (by decide)
theorem knB_len : knB.length <= 100000 := by rw [show knB.length = _ from chainS_len _]; decide
theorem knB_put : PutK 1 0 knB (bl (putR 1 0 knB).1) := putK (n := 1) knB_may knB_okb knB_len (by decide) (by decide)
def knC : List State := [⟨true, 0, []⟩]
theorem knC_may : mayF 1 knC = true := by kernel_rfl
theorem knC_right : rightS 1 knC 0 = false := by kernel_rfl
theorem knC_okb : knC.all okSb = true := by kernel_rfl
theorem knC_len : knC.length <= 100000 := by decide
theorem knC_put : PutK 1 0 knC (bl (putR 1 0 knC).1) := putK (n := 1) knC_may knC_okb knC_len (by decide) (by decide)
def knD : List State := [⟨true, 0, []⟩, ⟨false, 0, [⟨97, 0, 0⟩]⟩]
theorem knD_may : mayF 1 knD = true := by kernel_rfl
theorem knD_right : rightS 1 knD 4294967297 = false := by kernel_rfl
theorem knD_okb : knD.all okSb = true := by kernel_rfl
theorem knD_len : knD.length <= 100000 := by decide
theorem knD_put : PutK 1 4294967297 knD (bl (putR 1 4294967297 knD).1) := putK (n := 1) knD_may knD_okb knD_len (by decide) (by decide)
def knE : List State := [⟨true, 0, []⟩, ⟨false, 0, [⟨97, 0, 0⟩]⟩]
theorem knE_may : mayF 1 knE = true := by kernel_rfl
theorem knE_right : rightS 1 knE 4294967296 = true := by kernel_rfl
theorem knE_okb : knE.all okSb = true := by kernel_rfl
theorem knE_len : knE.length <= 100000 := by decide
theorem knE_put : PutK 1 4294967296 knE (bl (putR 1 4294967296 knE).1) := putK (n := 1) knE_may knE_okb knE_len (by decide) (by decide)
def knF : List State := [⟨true, 0, []⟩, ⟨false, 0, [⟨97, 1, 0⟩]⟩]
theorem knF_may : mayF 1 knF = true := by kernel_rfl
theorem knF_right : rightS 1 knF 0 = false := by kernel_rfl
theorem knF_okb : knF.all okSb = true := by kernel_rfl
theorem knF_len : knF.length <= 100000 := by decide
theorem knF_put : PutK 1 0 knF (bl (putR 1 0 knF).1) := putK (n := 1) knF_may knF_okb knF_len (by decide) (by decide)
def knG : List State := [⟨true, 0, []⟩, ⟨true, 0, []⟩, ⟨false, 0, [⟨97, 0, 0⟩, ⟨98, 0, 1⟩]⟩]
theorem knG_may : mayF 2 knG = true := by kernel_rfl
theorem knG_right : rightS 2 knG 0 = false := by kernel_rfl
theorem knG_okb : knG.all okSb = true := by kernel_rfl
theorem knG_len : knG.length <= 100000 := by decide
theorem knG_put : PutK 2 0 knG (bl (putR 2 0 knG).1) := putK (n := 2) knG_may knG_okb knG_len (by decide) (by decide)
def knH : List State := [⟨true, 0, []⟩, ⟨false, 0, [⟨97, 0, 0⟩, ⟨98, 0, 0⟩]⟩]
theorem knH_may : mayF 2 knH = true := by kernel_rfl
theorem knH_right : rightS 2 knH 0 = true := by kernel_rfl
theorem knH_okb : knH.all okSb = true := by kernel_rfl
theorem knH_len : knH.length <= 100000 := by decide
theorem knH_put : PutK 2 0 knH (bl (putR 2 0 knH).1) := putK (n := 2) knH_may knH_okb knH_len (by decide) (by decide)
def knI : List State := [⟨false, 0, []⟩]
theorem knI_may : mayF 0 knI = true := by kernel_rfl
theorem knI_right : rightS 0 knI 0 = false := by kernel_rfl
theorem knI_okb : knI.all okSb = true := by kernel_rfl
theorem knI_len : knI.length <= 100000 := by decide
theorem knI_put : PutK 0 0 knI (bl (putR 0 0 knI).1) := putK (n := 0) knI_may knI_okb knI_len (by decide) (by decide)
theorem knB_all : (fromV knB 0 ⟨#[]⟩ 1).length = 1 /\ ∀ e, (fromV knB 0 ⟨#[]⟩ 1)[0]? = some e -> e.word.size = 255 := by
 have h : ((fromV knB 0 ⟨#[]⟩ 1).map fun e => e.word.size) = [255] := by kernel_rfl
 refine ⟨by have := congrArg List.length h; rwa [List.length_map] at this, fun e he => ?_⟩
 have h2 := congrArg (fun l : List Nat => l[0]?) h
 simp only [List.getElem?_map, he, Option.map_some] at h2
 simpa using h2
theorem knE_formed : ∀ (k : Nat) (st : State), knE[k]? = some st -> okArcs k (-1) st.arcs = true := fun k st hk => formed_at (show formedF knE = true by kernel_rfl) hk
theorem knB_formed : ∀ (k : Nat) (st : State), knB[k]? = some st -> okArcs k (-1) st.arcs = true := fun k st hk => formed_at (show formedF knB = true by kernel_rfl) hk
def knW : ByteArray := ⟨(Lib.repeatL (⟨#[97]⟩ : ByteArray).data.toList 256).toArray⟩
theorem knW_make : makeV [⟨knW, 0, false⟩] = (⟨#[]⟩, 7) := by kernel_rfl
theorem knW_init : (buildF [⟨knW, 0, false⟩]).init < 18446744073709551616 := Nat.le_of_ble_eq_true (by kernel_rfl)
theorem knE_get : getV 4294967296 knE ⟨#[97]⟩ = (⟨⟨#[97]⟩, 4294967295, false⟩, true) := by kernel_rfl
theorem RE.lit {w W : World} {A : Array Value} {t : TypeId} (h : w.alloc (.cells A t) = W) (l : List Ent) (hA : A.toList = ecs l) : Below w.heap.size w W /\ RE W W.heap.size (.slice (some ⟨w.heap.size, 0, none⟩) l.length l.length) l := by
 obtain ⟨h1, h2, h3⟩ := lit_cells h
 exact ⟨h1, _, _, rfl, Nat.le_refl _, fun _ => ⟨_, _, rfl, by omega, fun j u hu => h2 j u (by rw [hA]; exact hu)⟩⟩
def wkE : List Ent := [⟨⟨#[97]⟩, 1, false⟩, ⟨⟨#[98]⟩, 0, true⟩]
def wkI : Nat := (buildF wkE).init
def wkS : List State := (buildF wkE).states
theorem wk_may (en : Int) (h : (mayF en wkS) = true) : (putR en wkI wkS).2 = 0 := by unfold putR; rw [if_pos h]
theorem wk_ok : ∀ s ∈ wkS, okS s := okS_all _ (by kernel_rfl)
theorem wk_make : makeV wkE = (bl (putR 2 wkI wkS).1, 0) := by
 unfold makeV
 rw [if_neg (by decide), if_neg (by rw [show chkN wkE = 0 by kernel_rfl]; simp)]
 exact Prod.ext rfl (wk_may 2 (by kernel_rfl))
theorem wk_get (en : Nat) (h : mayF en wkS = true) : pGet (bl (putR en wkI wkS).1) = .ok (en, wkI, wkS) := by
 have := pGet_put (en := (en : Int)) (init := wkI) h wk_ok (Nat.le_of_ble_eq_true (by kernel_rfl)) (Nat.le_of_ble_eq_true (by kernel_rfl))
 simpa using this
theorem wk_formed : ∀ (k : Nat) (st : State), wkS[k]? = some st -> okArcs k (-1) st.arcs = true := fun k st hk => formed_at (show formedF wkS = true by kernel_rfl) hk
theorem wk_right2 : rightS 2 wkS wkI = true := by kernel_rfl
theorem wk_right3 : rightS 3 wkS wkI = false := by kernel_rfl
theorem wk_a : getV wkI wkS ⟨#[97]⟩ = (⟨⟨#[97]⟩, 1, false⟩, true) := by kernel_rfl
theorem wk_b : getV wkI wkS ⟨#[98]⟩ = (⟨⟨#[98]⟩, 0, true⟩, true) := by kernel_rfl
theorem wk_c : getV wkI wkS ⟨#[99]⟩ = (⟨⟨#[]⟩, 0, false⟩, false) := by kernel_rfl
theorem wk_order : makeV [⟨⟨#[98]⟩, 1, false⟩, ⟨⟨#[97]⟩, 1, false⟩] = (⟨#[]⟩, 15) := by kernel_rfl
theorem wk_nil : makeV [] = (⟨#[]⟩, 2) := by kernel_rfl
theorem wk_none : openV ⟨#[]⟩ = false := by kernel_rfl
theorem wk_size (en : Nat) (h : mayF en wkS = true) (h2 : (putR en wkI wkS).1.length <= 1000) : (bl (putR en wkI wkS).1).size <= 900000000 := by
 rw [bl_size]; omega
theorem wk_okE : ∀ e ∈ wkE, okE e := by
 intro e he
 simp only [wkE, List.mem_cons, List.not_mem_nil, or_false] at he
 rcases he with rfl | rfl <;> (unfold okE; decide)
theorem wk_len : wkS.length <= 100000 := Nat.le_of_ble_eq_true (by kernel_rfl)
theorem wk_pos : 0 < wkS.length := Nat.lt_of_lt_of_le (Nat.zero_lt_one) (Nat.le_of_ble_eq_true (by kernel_rfl))
theorem wk_init : wkI < 18446744073709551616 := Nat.le_of_ble_eq_true (by kernel_rfl)
theorem wk_initE : (buildF wkE).init < 18446744073709551616 := wk_init
theorem wk_initN : (buildF []).init < 18446744073709551616 := Nat.le_of_ble_eq_true (by kernel_rfl)
theorem wk_few : ∀ s ∈ wkS, s.arcs.length <= 1000 := few_all _ (by kernel_rfl)
theorem wk_sz (en : Nat) (h : mayF en wkS = true) (h2 : Nat.ble (putR en wkI wkS).1.length 1000 = true) : (bl (putR en wkI wkS).1).size <= 900000000 := wk_size en h (Nat.le_of_ble_eq_true h2)
theorem wk_hlen (en : Nat) (h : mayF en wkS = true) : ∀ en2 init ss, pGet (bl (putR en wkI wkS).1) = .ok (en2, init, ss) -> ss.length <= 1000000 := by
 intro en2 init ss h2
 rw [wk_get en h] at h2
 cases h2
 exact Nat.le_trans wk_len (by omega)
theorem wk_open {w w1 : World} {e : Ending} {s : ByteArray} (hs : bl (putR 2 wkI wkS).1 = s) (h : OpenR w w1 e s) : ∃ S sv, e = .returned (.tuple #[.pointer (some ⟨S, 0, none⟩), .int .i64 0]) /\ w1.heap[S]? = some (.cells #[sv, .int .u64 wkI, .int .i64 (2 : Nat), .int .i64 s.size] 98 (0, 0)) /\ RS w1 sv wkS /\ Below w.heap.size w w1 := by
 subst hs
 unfold OpenR at h
 have hg := wk_get 2 (by kernel_rfl)
 rw [show ((2 : Nat) : Int) = 2 from rfl] at hg
 rw [hg] at h
 simp only at h
 rw [show rightS ((2 : Nat) : Int) wkS wkI = true from wk_right2] at h
 obtain ⟨S, sv, h1, _, h2, h3, h4⟩ := h
 exact ⟨S, sv, h1, h2, h3, h4⟩
theorem wk_bad : openV (bl (putR 3 wkI wkS).1) = false := by
 unfold openV
 have hg := wk_get 3 (by kernel_rfl)
 rw [show ((3 : Nat) : Int) = 3 from rfl] at hg
 rw [hg]
 exact wk_right3
attribute [local irreducible] wkI wkS putR makeV getV openV buildF rightS
set_option maxHeartbeats 4000000 in
set_option maxRecDepth 100000 in
theorem works8 (w : World)  : Calls Tryz.prog 8 #[] w fun e w1 => e = .returned (.bool true) /\ Below w.heap.size w w1 := by
 refine Zn0 113 Tryz.func8 fun fr hf => ?_
 have hbt := Below.refl w.heap.size w
 refine Ze fun _ hK1 => ?_
 refine Zr [] hf ?_
 refine Zq0 hf ?_
 clear hf; intro fr1 hf
 refine Zt hK1 fun _ hK2 => ?_
 have bB := hf.B7 18 19 20 21 17 22 23
 iterate 2 refine Za ?_
 refine fp fun K Z => ?_
 go_simp
 generalize hV1 : World.alloc w (.cells #[.string ⟨#[97]⟩, .int .u32 1, .bool false, .string ⟨#[98]⟩, .int .u32 0, .bool true] 64) = V1
 obtain ⟨bV1, x20⟩ := RE.lit hV1 [⟨⟨#[97]⟩, 1, false⟩, ⟨⟨#[98]⟩, 0, true⟩] rfl
 replace hbt := hbt.trans (bV1.mono hbt.size)
 clear hV1
 apply Z.out; clear Z K
 refine fp fun K Z => ?_
 go_simp
 go_at_call 9; refine (make9 V1 wkE V1.heap.size _ (Nat.le_refl _) x20 (by decide) wk_okE wk_initE).mono ?_; rintro e w1 ⟨rfl, hb1⟩
 rw [wk_make]
 generalize hSA : bl (putR 2 wkI wkS).1 = SA
 have HSA := Lib.hid hSA; clear hSA
 replace hbt := hbt.trans (hb1.mono hbt.size)
 replace x20 := (x20.below hb1).any
 dsimp only
 try dsimp only
 apply Z.out; clear Z K
 iterate 5 refine Za ?_
 refine Fact.nil (Zq2 1 2 hf ?_)
 clear hf bB; intro fr1 hf sS
 refine Zt hK2 fun _ hK3 => ?_
 have bB := hf.B5 25 26 24 27 28
 refine Za ?_
 refine fp fun K Z => ?_
 go_simp
 go_at_call 15; refine (open15 w1 SA (by rw [<- HSA.out]; exact wk_sz 2 (by kernel_rfl) (by kernel_rfl)) (by rw [<- HSA.out]; exact wk_hlen 2 (by kernel_rfl))).mono ?_; rintro e w2 hop
 obtain ⟨S, sv, rfl, hS, hrs, hb2⟩ := wk_open HSA.out hop
 replace hbt := hbt.trans (hb2.mono hbt.size)
 clear hb2
 try dsimp only
 apply Z.out; clear Z K
 iterate 5 refine Za ?_
 refine Fact.nil (Zq3 2 3 4 hf ?_)
 clear hf sS bB; intro fr1 hf sS
 refine Zs hK3 fun _ hK4 => ?_
 refine Ze fun _ hK5 => ?_
 refine Zr [29, 30, 31, 32, 33, 34, 35, 36, 37] hf ?_
 refine Zq2 3 38 hf ?_
 clear hf sS; intro fr1 hf sS
 refine Zx hK5 ?_
 refine Fact.cond_f sS.2 ?_
 refine wp_skip ?_
 refine Zt hK4 fun _ hK6 => ?_
 have bB := hf.B6 40 41 39 42 43 5
 refine Za ?_
 refine fp fun K Z => ?_
 go_simp
 go_at_call 22; refine (sget22 w2 S wkI 2 SA.size sv hS wkS ⟨#[97]⟩ hrs (Nat.le_trans wk_len (by omega)) wk_ok wk_formed wk_pos wk_init (by decide)).mono ?_; rintro e w5 ⟨rfl, hb5⟩
 rw [wk_a]
 simp only [eval]
 replace hbt := hbt.trans (hb5.mono hbt.size)
 replace hS := (hb5.block _ (heap_lt hS)).trans hS
 replace hrs := hrs.later hb5
 clear hb5
 try dsimp only
 apply Z.out; clear Z K
 iterate 6 refine Za ?_
 refine Fact.nil (Zq3 3 5 6 hf ?_)
 clear hf sS bB; intro fr1 hf sS
 obtain ⟨V5x, hV5x⟩ : ∃ W0, w5.alloc (.cells #[.string ⟨#[97]⟩, .int .u32 1, .bool false] 64) = W0 := ⟨_, rfl⟩
 try rw [hV5x]
 obtain ⟨hbV5x, e5, f5, g5, -, -⟩ := box3 hV5x
 clear hV5x
 replace hbt := hbt.trans (hbV5x.mono hbt.size)
 replace hS := (hbV5x.block _ (heap_lt hS)).trans hS
 replace hrs := hrs.later hbV5x
 clear hbV5x
 refine Zt hK6 fun _ hK7 => ?_
 have bB := hf.B6 45 46 44 47 48 7
 refine Za ?_
 refine fp fun K Z => ?_
 go_simp
 go_at_call 22; refine (sget22 V5x S wkI 2 SA.size sv hS wkS ⟨#[98]⟩ hrs (Nat.le_trans wk_len (by omega)) wk_ok wk_formed wk_pos wk_init (by decide)).mono ?_; rintro e w6 ⟨rfl, hb6⟩
 rw [wk_b]
 simp only [eval]
 replace hbt := hbt.trans (hb6.mono hbt.size)
 replace hS := (hb6.block _ (heap_lt hS)).trans hS
 replace hrs := hrs.later hb6
 replace f5 := cL hb6 f5
 replace g5 := cL hb6 g5
 clear hb6
 try dsimp only
 apply Z.out; clear Z K
 iterate 6 refine Za ?_
 refine Fact.nil (Zq5 3 5 6 7 8 hf ?_)
 clear hf sS bB; intro fr1 hf sS
 obtain ⟨V6x, hV6x⟩ : ∃ W0, w6.alloc (.cells #[.string ⟨#[98]⟩, .int .u32 0, .bool true] 64) = W0 := ⟨_, rfl⟩
 try rw [hV6x]
 obtain ⟨hbV6x, e6, f6, g6, -, -⟩ := box3 hV6x
 clear hV6x
 replace hbt := hbt.trans (hbV6x.mono hbt.size)
 replace hS := (hbV6x.block _ (heap_lt hS)).trans hS
 replace hrs := hrs.later hbV6x
 replace f5 := cL hbV6x f5
 replace g5 := cL hbV6x g5
 clear hbV6x
 refine Zt hK7 fun _ hK8 => ?_
 have bB := hf.B6 50 51 49 52 53 9
 refine Za ?_
 refine fp fun K Z => ?_
 go_simp
 go_at_call 22; refine (sget22 V6x S wkI 2 SA.size sv hS wkS ⟨#[99]⟩ hrs (Nat.le_trans wk_len (by omega)) wk_ok wk_formed wk_pos wk_init (by decide)).mono ?_; rintro e w7 ⟨rfl, hb7⟩
 rw [wk_c]
 simp only [eval]
 replace hbt := hbt.trans (hb7.mono hbt.size)
 replace hS := (hb7.block _ (heap_lt hS)).trans hS
 replace hrs := hrs.later hb7
 replace f5 := cL hb7 f5
 replace g5 := cL hb7 g5
 replace f6 := cL hb7 f6
 replace g6 := cL hb7 g6
 clear hb7
 try dsimp only
 apply Z.out; clear Z K
 iterate 6 refine Za ?_
 refine Fact.nil (Zq6 3 5 6 7 8 10 hf ?_)
 clear hf sS bB; intro fr1 hf sS
 obtain ⟨V7x, hV7x⟩ : ∃ W0, w7.alloc (.cells #[.string ⟨#[]⟩, .int .u32 0, .bool false] 64) = W0 := ⟨_, rfl⟩
 try rw [hV7x]
 obtain ⟨hbV7x, e7, f7, g7, -, -⟩ := box3 hV7x
 clear hV7x
 replace hbt := hbt.trans (hbV7x.mono hbt.size)
 replace hS := (hbV7x.block _ (heap_lt hS)).trans hS
 replace hrs := hrs.later hbV7x
 replace f5 := cL hbV7x f5
 replace g5 := cL hbV7x g5
 replace f6 := cL hbV7x f6
 replace g6 := cL hbV7x g6
 clear hbV7x
 refine Zt hK8 fun _ hK9 => ?_
 have bB := hf.B4 55 54 56 57
 refine fp fun K Z => ?_
 go_simp
 go_at_call 9; refine (make9 V7x [] V7x.heap.size _ (Nat.le_refl _) (OE.nil_ V7x 0).re (by decide) (fun _ h => absurd h (by simp)) wk_initN).mono ?_; rintro e w8 ⟨rfl, hb8⟩
 rw [wk_nil]
 replace hbt := hbt.trans (hb8.mono hbt.size)
 replace hS := (hb8.block _ (heap_lt hS)).trans hS
 replace hrs := hrs.later hb8
 replace f5 := cL hb8 f5
 replace g5 := cL hb8 g5
 replace f6 := cL hb8 f6
 replace g6 := cL hb8 g6
 replace f7 := cL hb8 f7
 replace g7 := cL hb8 g7
 dsimp only
 try dsimp only
 apply Z.out; clear Z K
 iterate 5 refine Za ?_
 refine Fact.nil (Zq7 3 5 6 7 8 10 12 hf ?_)
 clear hf sS bB; intro fr1 hf sS
 refine Zt hK9 fun _ hK10 => ?_
 have bB := hf.B7 59 60 61 62 58 63 64
 iterate 2 refine Za ?_
 refine fp fun K Z => ?_
 go_simp
 generalize hV2 : World.alloc w8 (.cells #[.string ⟨#[98]⟩, .int .u32 1, .bool false, .string ⟨#[97]⟩, .int .u32 1, .bool false] 64) = V2
 obtain ⟨bV2, x61⟩ := RE.lit hV2 [⟨⟨#[98]⟩, 1, false⟩, ⟨⟨#[97]⟩, 1, false⟩] rfl
 replace hbt := hbt.trans (bV2.mono hbt.size)
 replace hS := (bV2.block _ (heap_lt hS)).trans hS
 replace hrs := hrs.later bV2
 replace f5 := cL bV2 f5
 replace g5 := cL bV2 g5
 replace f6 := cL bV2 f6
 replace g6 := cL bV2 g6
 replace f7 := cL bV2 f7
 replace g7 := cL bV2 g7
 clear hV2
 apply Z.out; clear Z K
 refine fp fun K Z => ?_
 go_simp
 go_at_call 9; refine (make9 V2 [⟨⟨#[98]⟩, 1, false⟩, ⟨⟨#[97]⟩, 1, false⟩] V2.heap.size _ (Nat.le_refl _) x61 (by decide) (fun e he => by simp only [List.mem_cons, List.not_mem_nil, or_false] at he; rcases he with rfl | rfl <;> (unfold okE; decide)) (Nat.le_of_ble_eq_true (by kernel_rfl))).mono ?_; rintro e w9 ⟨rfl, hb9⟩
 rw [wk_order]
 replace hbt := hbt.trans (hb9.mono hbt.size)
 replace hS := (hb9.block _ (heap_lt hS)).trans hS
 replace hrs := hrs.later hb9
 replace f5 := cL hb9 f5
 replace g5 := cL hb9 g5
 replace f6 := cL hb9 f6
 replace g6 := cL hb9 g6
 replace f7 := cL hb9 f7
 replace g7 := cL hb9 g7
 replace x61 := (x61.below hb9).any
 dsimp only
 try dsimp only
 apply Z.out; clear Z K
 iterate 5 refine Za ?_
 refine Fact.nil (Zq8 3 5 6 7 8 10 12 14 hf ?_)
 clear hf sS bB; intro fr1 hf sS
 refine Zx hK10 ?_
 obtain ⟨Ay, ny, rfl, hny⟩ := hrs.form
 refine Ze fun _ hK11 => rg ?_
 have bB := hf.B6 66 67 68 65 69 70
 refine Za ?_
 refine fp fun K Z => ?_
 go_simp
 go_at_call 26; refine (fst26 w9 S (.slice Ay wkS.length ny) wkI 2 SA.size hS ⟨_, _, _, rfl⟩).mono ?_; rintro e w10 ⟨rfl, hb10⟩
 replace hbt := hbt.trans (hb10.mono hbt.size)
 replace hS := (hb10.block _ (heap_lt hS)).trans hS
 replace hrs := hrs.later hb10
 replace f5 := cL hb10 f5
 replace g5 := cL hb10 g5
 replace f6 := cL hb10 f6
 replace g6 := cL hb10 g6
 replace f7 := cL hb10 f7
 replace g7 := cL hb10 g7
 try dsimp only
 apply Z.out; clear Z K
 refine fp fun K Z => ?_
 go_simp
 go_at_call 14; refine (put14 w10 3 (.slice Ay wkS.length ny) wkI wkS hrs wk_ok wk_len wk_few wk_init).mono ?_; rintro e w11 ⟨rfl, hb11⟩
 rw [wk_may 3 (by kernel_rfl)]
 generalize hSB : bl (putR 3 wkI wkS).1 = SB
 have HSB := Lib.hid hSB; clear hSB
 replace hbt := hbt.trans (hb11.mono hbt.size)
 replace hS := (hb11.block _ (heap_lt hS)).trans hS
 replace hrs := hrs.later hb11
 replace f5 := cL hb11 f5
 replace g5 := cL hb11 g5
 replace f6 := cL hb11 f6
 replace g6 := cL hb11 g6
 replace f7 := cL hb11 f7
 replace g7 := cL hb11 g7
 try dsimp only
 apply Z.out; clear Z K
 iterate 5 refine Za ?_
 refine Fact.nil (Zq9 3 5 6 7 8 10 12 14 15 hf ?_)
 clear hf sS bB; intro fr1 hf sS
 refine Zx hK11 ?_
 have q1 : decide (0 < SB.size) = true := decide_eq_true (by have := HSB.out; rw [<- this, bl_size]; exact Nat.lt_of_lt_of_le Nat.zero_lt_one (Nat.le_of_ble_eq_true (by kernel_rfl)))
 refine Ze fun _ hK12 => rg ?_
 have bB := And.intro (hf.B10 71 72 73 74 75 76 77 78 79 80) (And.intro (hf.B10 81 82 83 84 85 86 87 88 89 90) (And.intro (hf.B10 91 92 93 94 95 96 97 98 99 100) (And.intro (hf.B10 101 102 103 104 105 106 107 108 109 110) (hf.B2 111 112))))
 refine Za ?_
 refine fp fun K Z => ?_
 go_simp
 go_at_call 19; refine (len19 w11 S (.slice Ay wkS.length ny) wkI 2 SA.size hS).mono ?_; rintro e v1 ⟨rfl, hc1⟩
 replace hbt := hbt.trans (hc1.mono hbt.size)
 replace hS := (hc1.block _ (heap_lt hS)).trans hS
 replace hrs := hrs.later hc1
 replace f5 := cL hc1 f5
 replace g5 := cL hc1 g5
 replace f6 := cL hc1 f6
 replace g6 := cL hc1 g6
 replace f7 := cL hc1 f7
 replace g7 := cL hc1 g7
 try dsimp only
 apply Z.out; clear Z K
 iterate 2 refine Za ?_
 refine Zg ?_ (hv := by simp (decide := true) only [Fact.G, reduceIte, hf.size, q1])
 iterate 2 refine Za ?_
 refine Zg ?_ (hv := by simp (decide := true) only [Fact.G, reduceIte, hf.size, q1])
 refine Zg ?_ (hv := by simp (decide := true) only [Fact.G, reduceIte, hf.size, q1])
 refine Zg ?_ (hv := by simp (decide := true) only [Fact.G, reduceIte, hf.size, q1])
 iterate 2 refine Za ?_
 refine Zg ?_ (hv := by simp (decide := true) only [Fact.G, reduceIte, hf.size, q1])
 iterate 2 refine Za ?_
 refine Zg ?_ (hv := by simp (decide := true) only [Fact.G, reduceIte, hf.size, q1])
 refine Zg ?_ (hv := by simp (decide := true) only [Fact.G, reduceIte, hf.size, q1])
 iterate 2 refine Za ?_
 refine Zg ?_ (hv := by simp (decide := true) only [Fact.G, reduceIte, hf.size, q1])
 refine Zg ?_ (hv := by simp (decide := true) only [Fact.G, reduceIte, hf.size, q1])
 iterate 2 refine Za ?_
 refine Zg ?_ (hv := by simp (decide := true) only [Fact.G, reduceIte, hf.size, q1])
 refine Zg ?_ (hv := by simp (decide := true) only [Fact.G, reduceIte, hf.size, q1])
 iterate 2 refine Za ?_
 refine Zg ?_ (hv := by simp (decide := true) only [Fact.G, reduceIte, hf.size, q1])
 refine Zg ?_ (hv := by simp (decide := true) only [Fact.G, reduceIte, hf.size, q1])
 iterate 2 refine Za ?_
 refine og 30 101 true ?_ fun K Z => ?_
 . (
 simp (decide := true) only [Fact.G, reduceIte, hf.size, q1])
 go_simp
 go_at_call 11; refine (corrupt11 v1 ⟨#[]⟩ (by decide) (fun en init ss h => by rw [show pGet ⟨#[]⟩ = .error (16, 0) by kernel_rfl] at h; cases h)).mono ?_; rintro e v31 ⟨rfl, hc31⟩
 rw [wk_none]
 replace hbt := hbt.trans (hc31.mono hbt.size)
 replace hS := (hc31.block _ (heap_lt hS)).trans hS
 replace hrs := hrs.later hc31
 replace f5 := cL hc31 f5
 replace g5 := cL hc31 g5
 replace f6 := cL hc31 f6
 replace g6 := cL hc31 g6
 replace f7 := cL hc31 f7
 replace g7 := cL hc31 g7
 try dsimp only
 apply Z.out; clear Z K
 iterate 2 refine Za ?_
 refine Zg ?_ (hv := by simp (decide := true) only [Fact.G, reduceIte, hf.size, q1])
 refine Zg ?_ (hv := by simp (decide := true) only [Fact.G, reduceIte, hf.size, q1])
 refine Zg ?_ (hv := by simp (decide := true) only [Fact.G, reduceIte, hf.size, q1])
 iterate 2 refine Za ?_
 refine Zg ?_ (hv := by simp (decide := true) only [Fact.G, reduceIte, hf.size, q1])
 refine og 38 109 true ?_ fun K Z => ?_
 . (
 simp (decide := true) only [Fact.G, reduceIte, hf.size, q1])
 go_simp
 go_at_call 11; refine (corrupt11 v31 SB (by rw [<- HSB.out]; exact wk_sz 3 (by kernel_rfl) (by kernel_rfl)) (by rw [<- HSB.out]; exact wk_hlen 3 (by kernel_rfl))).mono ?_; rintro e v40 ⟨rfl, hc40⟩
 have hob : openV SB = false := by rw [<- HSB.out]; exact wk_bad
 rw [hob]
 replace hbt := hbt.trans (hc40.mono hbt.size)
 replace hS := (hc40.block _ (heap_lt hS)).trans hS
 replace hrs := hrs.later hc40
 replace f5 := cL hc40 f5
 replace g5 := cL hc40 g5
 replace f6 := cL hc40 f6
 replace g6 := cL hc40 g6
 replace f7 := cL hc40 f7
 replace g7 := cL hc40 g7
 try dsimp only
 apply Z.out; clear Z K
 iterate 2 refine Za ?_
 refine Fact.nil (Zq1 0 hf ?_)
 clear hf sS bB; intro fr1 hf s0
 refine Zx hK12 ?_
 refine Zret ?_
 exact Fact.ret1 rfl hf s0 ⟨rfl, hbt⟩
end Dw
end Go.Proofs.YtcddnmhmcieebaaGreatDoor
