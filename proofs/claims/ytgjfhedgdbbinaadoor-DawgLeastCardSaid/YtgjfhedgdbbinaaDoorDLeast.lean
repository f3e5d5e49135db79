/- DawgLeast, walked. -/
import Derived.Test.YtgjfhedgdbbinaaDoorDClasses
import Derived.Test.YtgjfhedgdbbinaaDoorDWorks
import Derived.Test.YtgjfhedgdbbinaaDoorR5List
import Derived.Test.YtgjfhedgdbbinaaDoorDSame
import Derived.Test.YtgjfhedgdbbinaaDoorTools
namespace Go.Proofs.YtgjfhedgdbbinaaDoor
open Go.RowKit
set_option linter.unusedSimpArgs false
set_option linter.unusedVariables false
set_option linter.unnecessarySimpa false
namespace Dw

theorem val_cases {init : Nat} {a : Option Nat} {b : Option Ent} (h : a.map (fun v => (init + v) % M64) = b.map valE) : (a = none ∧ b = none) ∨ ∃ v x, a = some v ∧ b = some x ∧ (init + v) % M64 = valE x := by
  cases a <;> cases b <;> simp at h ⊢
  exact h
theorem dra_size (d : Dra) : d.ent.word.size ≤ 9 ∧ 0 < d.ent.word.size := by
  unfold Dra.ent
  rw [bareE_word]
  have := dword_size d.letters
  exact ⟨this.2, this.1⟩
theorem ent_size (d : Dra) : d.ent.word.size ≤ 9 ∧ 0 < d.ent.word.size := dra_size d
theorem list_short {ds : List Dra} {n : Nat} : ∀ e ∈ listOf ds n, e.word.size ≤ 12 := fun e he => by
  rcases with_mem _ he with h1 | ⟨x, hx, rfl⟩
  · cases h1
  · rw [bareE_word]
    unfold entsOf at hx
    obtain ⟨d, _, rfl⟩ := List.mem_map.1 hx
    have := (dra_size d).1
    omega
theorem own_pos {es : List Ent} (hok : ∀ e ∈ es, okE e ∧ okW e.word = true ∧ bareE e = e) (hr : RiseE es) : 0 < (buildF es).states.length := by
  rw [own_classes hok hr]
  unfold classesE
  omega
theorem own_closed {es : List Ent} (hok : ∀ e ∈ es, okE e ∧ okW e.word = true ∧ bareE e = e) (hr : RiseE es) : ∀ s ∈ (buildF es).states, ∀ a ∈ s.arcs, 0 ≤ a.to ∧ a.to < ((buildF es).states.length : Int) := by
  rw [own_build hok hr]
  by_cases hn : es = []
  · subst hn
    intro s hs a ha
    have h0 : (build (([] : List Ent).map wvE)).states = [zeroS] := rfl
    rw [h0] at hs
    simp at hs
    subst hs
    cases ha
  · have hn2 : es.map wvE ≠ [] := by simpa using hn
    rw [build_K (own_lt hok hr) hn2 (own_rise hok hr)]
    obtain ⟨hI, _⟩ := K_ok 256 (es.map wvE) [] (own_lt hok hr) hn2 (own_rise hok hr) Inv.nil_
    intro s hs a ha
    obtain ⟨i, hi⟩ := List.mem_iff_getElem?.1 hs
    have h1 := formed_ahead0 _ _ _ (hI.good i s hi).arcs a ha
    have h2 : i < (K 256 [] (es.map wvE)).1.length := (List.getElem?_eq_some_iff.1 hi).1
    refine ⟨h1.1, ?_⟩
    show a.to < (((K 256 [] (es.map wvE)).1.length : Nat) : Int)
    omega
theorem own_right {es : List Ent} (hok : ∀ e ∈ es, okE e ∧ okW e.word = true ∧ bareE e = e) (hr : RiseE es) : rightF (buildF es).states (buildF es).init = true := by
  rw [own_build hok hr]
  exact build_right (own_lt hok hr) (own_rise hok hr)
theorem own_init_lt {es : List Ent} (hok : ∀ e ∈ es, okE e ∧ okW e.word = true ∧ bareE e = e) (hr : RiseE es) : (buildF es).init < M64 := by
  rw [own_init hok hr]
  by_cases hn : es = []
  · subst hn; decide
  · obtain ⟨e, l, rfl⟩ := List.exists_cons_of_ne_nil hn
    have h1 := leastV_le (l := (e :: l).map wvE) (wvE e) (List.mem_map_of_mem (List.mem_cons_self ..))
    have h2 := valE_lt (hok e (List.mem_cons_self ..)).1
    have h3 : leastV ((e :: l).map wvE) ≤ valE e := h1
    unfold M64
    omega
set_option maxHeartbeats 4000000 in
set_option maxRecDepth 100000 in
theorem least3 (w : World) (ds : List Dra) (dv : Value) (hrd : RD w w.heap.size dv ds) (hokd : ∀ d ∈ ds, okD d) (d : Dra) (lv : Value) (hru : RU w w.heap.size lv d.letters) (hokd1 : okD d) : Calls Tryd.prog 3 #[dv, .agg #[lv, .int .u32 d.weight, .bool d.gone]] w fun e w1 => e = .returned (.bool true) ∧ Below w.heap.size w w1 := by
 refine calls_of_wp Tryd.func3 rfl ?_
 refine Fact.en 76 fun fr hf hT => ?_
 have s0 := hT 0 _ rfl
 have s1 := hT 1 _ rfl
 clear hT
 have hlo := (list_ok (n := 25) hokd).1
 have hlr := (list_ok (n := 25) hokd).2.1
 have hll := (list_ok (n := 25) hokd).2.2
 have hsh := list_short (n := 25) (ds := ds)
 have hlc := list_chk (n := 25) hokd
 obtain ⟨own, hown⟩ : ∃ x, listOf ds 25 = x := ⟨_, rfl⟩
 rw [hown] at hlo hlr hll hsh hlc
 have HOWN := Lib.hid hown; have HLO := Lib.hid hlo; have HLR := Lib.hid hlr; have HSH := Lib.hid hsh; have HLC := Lib.hid hlc; clear hown hlo hlr hsh hlc
 refine Fact.sq fun K1 hK1 => ?_
 refine rg ?_
 refine fp fun K Z => ?_
 go_simp
 apply Z.out; clear Z K
 refine fp fun K Z => ?_
 go_simp
 apply Z.out; clear Z K
 refine Fact.z hf fun fr1 hf1 hT => ?_
 have hKp : _ ∧ _ := ⟨hT 0, hT 3⟩
 simp (decide := true) only [Fact.G, hf.size, reduceIte, s0] at hKp
 replace hf := hf1; clear hT hf1 s0 s1
 obtain ⟨s0, s3⟩ := hKp
 obtain ⟨W0, hW0⟩ : ∃ W0, w.alloc (.cells #[lv, .int .u32 d.weight, .bool d.gone] 26) = W0 := ⟨_, rfl⟩
 try rw [hW0]
 obtain ⟨hb0, x0, x1, x2, -, hz0_⟩ := box3 hW0
 clear hW0
 have hz0 : w.heap.size < W0.heap.size := by rw [hz0_]; exact Nat.lt_succ_self _
 clear hz0_
 replace hrd := (hrd.below hb0).more hb0.size
 replace hru := (hru.below hb0).more hb0.size
 refine nx (hK1 _ _ ?_)
 refine Fact.sq fun K2 hK2 => ?_
 refine Fact.sq fun K3 hK3 => ?_
 refine rg ?_
 have b13 := hf.b 13
 refine fp fun K Z => ?_
 go_simp
 go_at_call 6; refine (works6 W0).mono ?_; rintro e w1 ⟨rfl, hb1⟩
 replace hrd := (hrd.below hb1).more hb1.size; replace hru := (hru.below hb1).more hb1.size
 replace x0 := cL hb1 x0; replace x1 := cL hb1 x1; replace x2 := cL hb1 x2
 replace hb0 := hb0.trans (hb1.mono hb0.size)
 try dsimp only
 apply Z.out; clear Z K
 refine fp fun K Z => ?_
 go_simp
 apply Z.out; clear Z K
 refine Fact.z hf fun fr1 hf1 hT => ?_
 have hKp : _ ∧ _ ∧ _ := ⟨hT 0, hT 3, hT 14⟩
 simp (decide := true) only [Fact.G, hf.size, reduceIte, s0, s3] at hKp
 replace hf := hf1; clear hT hf1 s0 s3 b13
 obtain ⟨s0, s3, s14⟩ := hKp
 refine nx (hK3 _ _ ?_)
 refine Fact.cond_f s14 ?_
 refine wp_skip ?_
 refine nx (hK2 _ _ ?_)
 refine Fact.sq fun K4 hK4 => ?_
 refine rg ?_
 have b15 := hf.b 15
 have b16 := hf.b 16
 refine fp fun K Z => ?_
 go_simp
 apply Z.out; clear Z K
 refine fp fun K Z => ?_
 go_simp
 go_at_call 7; refine (list_ w1 ds 25 (by omega) dv hrd hokd).mono ?_; rintro e w2 ⟨v1, rfl, how1, hb2⟩
 rw [HOWN.out] at how1
 have hre1 := OE.re (es := own) how1
 replace x0 := cL hb2 x0; replace x1 := cL hb2 x1; replace x2 := cL hb2 x2
 replace hru := (hru.below hb2).more hb2.size
 replace hb0 := hb0.trans (hb2.mono hb0.size)
 try dsimp only
 apply Z.out; clear Z K
 refine fp fun K Z => ?_
 go_simp
 apply Z.out; clear Z K
 refine Fact.z hf fun fr1 hf1 hT => ?_
 have hKp : _ ∧ _ := ⟨hT 3, hT 5⟩
 simp (decide := true) only [Fact.G, hf.size, reduceIte, s3] at hKp
 replace hf := hf1; clear hT hf1 s0 s3 s14 b15 b16
 obtain ⟨s3, s5⟩ := hKp
 clear how1 hrd hb2
 refine nx (hK4 _ _ ?_)
 refine Fact.sq fun K5 hK5 => ?_
 refine rg ?_
 have b18 := hf.b 18
 have b19 := hf.b 19
 have b17 := hf.b 17
 have b20 := hf.b 20
 have b21 := hf.b 21
 have b6 := hf.b 6
 refine fp fun K Z => ?_
 go_simp
 apply Z.out; clear Z K
 refine fp fun K Z => ?_
 go_simp
 go_at_call 8; refine (build8 w2 own _ v1 (Nat.le_refl _) hre1 (by omega) (fun e he => (HLO.out e he).1)).mono ?_; rintro e w3 ⟨sv, rfl, hrs, hgs, hls, hb3⟩
 rw [show chkN own = 0 from HLC.out]
 replace hre1 := (hre1.below hb3).any
 replace x0 := cL hb3 x0; replace x1 := cL hb3 x1; replace x2 := cL hb3 x2
 replace hru := (hru.below hb3).more hb3.size
 replace hb0 := hb0.trans (hb3.mono hb0.size)
 try dsimp only
 apply Z.out; clear Z K
 have hcls := own_classes HLO.out HLR.out
 have hwds := own_words HLO.out HLR.out 12 HSH.out
 have hvals := own_val HLO.out HLR.out
 have hini := own_init_lt HLO.out HLR.out
 have hcld := own_closed HLO.out HLR.out
 have hpos := own_pos HLO.out HLR.out
 have hrgt := own_right HLO.out HLR.out
 obtain ⟨ss, hss⟩ : ∃ x, (buildF own).states = x := ⟨_, rfl⟩
 obtain ⟨init, hin⟩ : ∃ x, (buildF own).init = x := ⟨_, rfl⟩
 rw [hss] at hrs hgs hls hcls hwds hvals hcld hpos hrgt
 rw [hin] at hwds hvals hini hrgt
 rw [hin]
 have hoo : ∀ s ∈ ss, okS s := fun s hs => (hgs s hs).ok
 have HCLS := Lib.hid hcls; have HWDS := Lib.hid hwds; have HVALS := Lib.hid hvals; have HCL := Lib.hid hcld; have HRG := Lib.hid hrgt; have HOO := Lib.hid hoo; clear hcls hwds hvals hcld hrgt hoo hgs hss hin
 obtain ⟨A3, c3, rfl, _⟩ := hrs.form
 refine fp fun K Z => ?_
 go_simp
 apply Z.out; clear Z K
 refine fp fun K Z => ?_
 go_simp
 apply Z.out; clear Z K
 refine fp fun K Z => ?_
 go_simp
 apply Z.out; clear Z K
 refine fp fun K Z => ?_
 go_simp
 apply Z.out; clear Z K
 refine fp fun K Z => ?_
 go_simp
 apply Z.out; clear Z K
 refine fp fun K Z => ?_
 go_simp
 apply Z.out; clear Z K
 refine Fact.z hf fun fr1 hf1 hT => ?_
 have hKp : _ ∧ _ ∧ _ ∧ _ := ⟨hT 3, hT 5, hT 6, hT 7⟩
 simp (decide := true) only [Fact.G, hf.size, reduceIte, s3, s5] at hKp
 replace hf := hf1; clear hT hf1 s3 s5 b18 b19 b17 b20 b21 b6
 obtain ⟨s3, s5, s6, s7⟩ := hKp
 obtain ⟨W3, hW3⟩ : ∃ W0, w3.alloc (.cells #[.slice A3 ss.length c3, .int .u64 init] 33) = W0 := ⟨_, rfl⟩
 try rw [hW3]
 obtain ⟨hb4, y0, y1, -, hz4_⟩ := box2 hW3
 clear hW3
 have hz4 : w3.heap.size < W3.heap.size := by rw [hz4_]; exact Nat.lt_succ_self _
 clear hz4_
 replace hrs := hrs.later hb4
 replace hre1 := (hre1.below hb4).any
 replace x0 := cL hb4 x0; replace x1 := cL hb4 x1; replace x2 := cL hb4 x2
 replace hru := (hru.below hb4).more hb4.size
 replace hb0 := hb0.trans (hb4.mono hb0.size)
 clear hb3 hb4
 refine nx (hK5 _ _ ?_)
 have q2 : (((ss.length : Nat) : Int) != ((ss.length : Nat) : Int)) = false := by simp
 refine Fact.sq fun K6 hK6 => ?_
 refine Fact.sq fun K7 hK7 => ?_
 refine Stab.tb 76 fun hok => ?_
 refine Stab.mO 0 s7 hf hok ?_
 apply Stab.tq 1 _ hf hok
 · (
 intro fr1 w1 hh hd hk K Z
 have s22 := Stab.v 0 0 hd hk []
 clear hd
 go_simp
 exact Stab.k Z)
 refine Stab.mN 2 1 0 hf hok [] ?_
 apply Stab.tr 3 _ hf hok
 · (
 intro fr1 w1 hh hd hk K Z
 have s24 := Stab.v 2 0 hd hk []
 refine Stab.g s24 ?_
 have s6 := Stab.O hh s6
 clear hd
 replace y0 := cL hh.ext y0
 replace y1 := cL hh.ext y1
 replace hrs := hrs.later hh.ext
 replace hre1 := (hre1.below hh.ext).any
 replace x0 := cL hh.ext x0
 replace x1 := cL hh.ext x1
 replace x2 := cL hh.ext x2
 replace hru := (hru.below hh.ext).more (hh.ext).size
 replace hb0 := hb0.trans ((hh.ext).mono hb0.size)
 go_simp
 exact Stab.k Z)
 apply Stab.tr 4 _ hf hok
 · (
 intro fr1 w1 hh hd hk K Z
 have s24 := Stab.v 2 1 hd hk []
 refine Stab.g s24 ?_
 have s25 := Stab.v 3 0 hd hk []
 clear hd
 replace y0 := cL hh.ext y0
 replace y1 := cL hh.ext y1
 replace hrs := hrs.later hh.ext
 replace hre1 := (hre1.below hh.ext).any
 replace x0 := cL hh.ext x0
 replace x1 := cL hh.ext x1
 replace x2 := cL hh.ext x2
 replace hru := (hru.below hh.ext).more (hh.ext).size
 replace hb0 := hb0.trans ((hh.ext).mono hb0.size)
 go_simp
 go_at_call 9; refine (right9 w1 _ init ss hrs HOO.out (by omega)).mono ?_; rintro e w2 ⟨rfl, hb⟩
 rw [HRG.out]
 exact Z.out _ rfl _ _ hb rfl)
 apply Stab.tr 5 _ hf hok
 · (
 intro fr1 w1 hh hd hk K Z
 have s24 := Stab.v 2 2 hd hk []
 refine Stab.g s24 ?_
 have s26 := Stab.v 4 0 hd hk []
 clear hd
 go_simp
 exact Stab.k Z)
 apply Stab.tq 6 _ hf hok
 · (
 intro fr1 w1 hh hd hk K Z
 have s24 := Stab.v 2 3 hd hk []
 have s27 := Stab.v 5 0 hd hk []
 clear hd
 go_simp
 exact Stab.k Z)
 refine Stab.mN 7 6 0 hf hok [] ?_
 apply Stab.tr 8 _ hf hok
 · (
 intro fr1 w1 hh hd hk K Z
 have s29 := Stab.v 7 0 hd hk []
 refine Stab.g s29 ?_
 have s6 := Stab.O hh s6
 clear hd
 go_simp
 exact Stab.k Z)
 apply Stab.tr 9 _ hf hok
 · (
 intro fr1 w1 hh hd hk K Z
 have s29 := Stab.v 7 1 hd hk []
 refine Stab.g s29 ?_
 have s30 := Stab.v 8 0 hd hk []
 clear hd
 replace y0 := cL hh.ext y0
 replace y1 := cL hh.ext y1
 replace hrs := hrs.later hh.ext
 replace hre1 := (hre1.below hh.ext).any
 replace x0 := cL hh.ext x0
 replace x1 := cL hh.ext x1
 replace x2 := cL hh.ext x2
 replace hru := (hru.below hh.ext).more (hh.ext).size
 replace hb0 := hb0.trans ((hh.ext).mono hb0.size)
 go_simp
 exact Stab.k Z)
 apply Stab.tr 10 _ hf hok
 · (
 intro fr1 w1 hh hd hk K Z
 have s29 := Stab.v 7 2 hd hk []
 refine Stab.g s29 ?_
 have s31 := Stab.v 9 0 hd hk []
 clear hd
 replace y0 := cL hh.ext y0
 replace y1 := cL hh.ext y1
 replace hrs := hrs.later hh.ext
 replace hre1 := (hre1.below hh.ext).any
 replace x0 := cL hh.ext x0
 replace x1 := cL hh.ext x1
 replace x2 := cL hh.ext x2
 replace hru := (hru.below hh.ext).more (hh.ext).size
 replace hb0 := hb0.trans ((hh.ext).mono hb0.size)
 go_simp
 exact Stab.k Z)
 apply Stab.tr 11 _ hf hok
 · (
 intro fr1 w1 hh hd hk K Z
 have s29 := Stab.v 7 3 hd hk []
 refine Stab.g s29 ?_
 have s5 := Stab.O hh s5
 clear hd
 go_simp
 exact Stab.k Z)
 apply Stab.tr 12 _ hf hok
 · (
 intro fr1 w1 hh hd hk K Z
 have s29 := Stab.v 7 4 hd hk []
 refine Stab.g s29 ?_
 have s33 := Stab.v 11 0 hd hk []
 clear hd
 replace y0 := cL hh.ext y0
 replace y1 := cL hh.ext y1
 replace hrs := hrs.later hh.ext
 replace hre1 := (hre1.below hh.ext).any
 replace x0 := cL hh.ext x0
 replace x1 := cL hh.ext x1
 replace x2 := cL hh.ext x2
 replace hru := (hru.below hh.ext).more (hh.ext).size
 replace hb0 := hb0.trans ((hh.ext).mono hb0.size)
 go_simp
 go_at_call 10; refine (classes10 w1 own _ _ (Nat.le_refl _) hre1 (by omega) (fun e he => (HLO.out e he).1) (fun e he => by have := HSH.out e he; omega)).mono ?_; rintro e w2 ⟨rfl, hb⟩
 rw [← HCLS.out]
 exact Z.out _ rfl _ _ hb rfl)
 apply Stab.tr 13 _ hf hok
 · (
 intro fr1 w1 hh hd hk K Z
 have s29 := Stab.v 7 5 hd hk []
 refine Stab.g s29 ?_
 have s32 := Stab.v 10 2 hd hk []
 have s34 := Stab.v 12 0 hd hk []
 clear hd
 go_simp
 exact Stab.k Z)
 apply Stab.tq 14 _ hf hok
 · (
 intro fr1 w1 hh hd hk K Z
 have s29 := Stab.v 7 6 hd hk []
 have s35 := Stab.v 13 0 hd hk []
 clear hd
 go_simp
 exact Stab.k Z)
 refine Stab.tf hf hok fun fr1 w1 hh hg => ?_
 replace s3 := Stab.O hh s3
 replace s5 := Stab.O hh s5
 replace s6 := Stab.O hh s6
 have s36 := Stab.f 14 0 hg
 have hf1 := hh.fr hf
 have hx := hh.ext
 replace y0 := cL hx y0
 replace y1 := cL hx y1
 replace hrs := hrs.later hx
 replace hre1 := (hre1.below hx).any
 replace x0 := cL hx x0
 replace x1 := cL hx x1
 replace x2 := cL hx x2
 replace hru := (hru.below hx).more (hx).size
 replace hb0 := hb0.trans ((hx).mono hb0.size)
 clear hg hh hf hok s7
 have hf := hf1; clear hf1
 refine nx (hK7 _ _ ?_)
 refine Fact.cond_f s36 ?_
 clear q2
 refine wp_skip ?_
 refine nx (hK6 _ _ ?_)
 refine Fact.sq fun K8 hK8 => ?_
 refine Fact.sq fun K9 hK9 => ?_
 refine rg ?_
 have b37 := hf.b 37
 have b38 := hf.b 38
 have b39 := hf.b 39
 have b40 := hf.b 40
 have b41 := hf.b 41
 have b42 := hf.b 42
 have b43 := hf.b 43
 have b44 := hf.b 44
 have b45 := hf.b 45
 have b46 := hf.b 46
 refine fp fun K Z => ?_
 go_simp
 apply Z.out; clear Z K
 refine fp fun K Z => ?_
 go_simp
 apply Z.out; clear Z K
 refine fp fun K Z => ?_
 go_simp
 apply Z.out; clear Z K
 refine fp fun K Z => ?_
 go_simp
 apply Z.out; clear Z K
 refine fp fun K Z => ?_
 go_simp
 try simp (disch := omega) only [Fact.W]
 rw [show ((ss.length : Nat) : Int) - 1 = ((ss.length - 1 : Nat) : Int) by omega]
 apply Z.out; clear Z K
 refine fp fun K Z => ?_
 go_simp
 apply Z.out; clear Z K
 refine fp fun K Z => ?_
 go_simp
 apply Z.out; clear Z K
 refine fp fun K Z => ?_
 go_simp
 go_at_call 12; refine (words12 12 _ _ init ss hrs HOO.out HCL.out (by omega) (ss.length - 1) (by omega) ⟨#[]⟩ (by decide) init hini (by rw [HWDS.out]; omega)).mono ?_; rintro e w5 ⟨v5, rfl, how5, hb5⟩
 rw [HWDS.out] at how5
 have hre5 := OE.re (es := own) how5
 clear how5
 replace y0 := cL hb5 y0; replace y1 := cL hb5 y1; replace hrs := hrs.later hb5; replace hre1 := (hre1.below hb5).any
 replace x0 := cL hb5 x0; replace x1 := cL hb5 x1; replace x2 := cL hb5 x2
 replace hru := (hru.below hb5).more hb5.size
 replace hb0 := hb0.trans (hb5.mono hb0.size)
 try dsimp only
 apply Z.out; clear Z K
 refine fp fun K Z => ?_
 go_simp
 apply Z.out; clear Z K
 refine fp fun K Z => ?_
 go_simp
 go_at_call 11; refine (same11 w5 own own _ _ _ _ (Nat.le_refl _) (Nat.le_refl _) hre5 hre1 (by omega) (by omega)).mono ?_; rintro e w6 ⟨rfl, hb6⟩
 rw [decide_eq_true (show own = own from rfl)]
 clear hre5
 replace y0 := cL hb6 y0; replace y1 := cL hb6 y1; replace hrs := hrs.later hb6; replace hre1 := (hre1.below hb6).any
 replace x0 := cL hb6 x0; replace x1 := cL hb6 x1; replace x2 := cL hb6 x2
 replace hru := (hru.below hb6).more hb6.size
 replace hb0 := hb0.trans (hb6.mono hb0.size)
 try dsimp only
 apply Z.out; clear Z K
 refine fp fun K Z => ?_
 go_simp
 apply Z.out; clear Z K
 refine Fact.z hf fun fr1 hf1 hT => ?_
 have hKp : _ ∧ _ ∧ _ ∧ _ := ⟨hT 3, hT 5, hT 6, hT 47⟩
 simp (decide := true) only [Fact.G, hf.size, reduceIte, s3, s5, s6] at hKp
 replace hf := hf1; clear hT hf1 s3 s5 s6 s36 b37 b38 b39 b40 b41 b42 b43 b44 b45 b46
 obtain ⟨s3, s5, s6, s47⟩ := hKp
 refine nx (hK9 _ _ ?_)
 refine Fact.cond_f s47 ?_
 refine wp_skip ?_
 refine nx (hK8 _ _ ?_)
 refine Fact.sq fun K10 hK10 => ?_
 refine rg ?_
 have b48 := hf.b 48
 have b49 := hf.b 49
 have b50 := hf.b 50
 refine fp fun K Z => ?_
 go_simp
 apply Z.out; clear Z K
 refine fp fun K Z => ?_
 go_simp
 go_at_call 13; refine (dentry w6 d lv hru hokd1.1).mono ?_; rintro e w7 ⟨rfl, hb7⟩
 obtain ⟨Ee, hEe⟩ : ∃ x, d.ent = x := ⟨_, rfl⟩
 have hes : Ee.word.size ≤ 9 ∧ 0 < Ee.word.size := by rw [← hEe]; exact ent_size d
 rw [hEe]
 simp only [eval]
 clear hEe
 replace y0 := cL hb7 y0; replace y1 := cL hb7 y1; replace hrs := hrs.later hb7; replace hre1 := (hre1.below hb7).any
 replace x0 := cL hb7 x0; replace x1 := cL hb7 x1; replace x2 := cL hb7 x2
 replace hru := (hru.below hb7).more hb7.size
 replace hb0 := hb0.trans (hb7.mono hb0.size)
 try dsimp only
 apply Z.out; clear Z K
 refine fp fun K Z => ?_
 go_simp
 apply Z.out; clear Z K
 refine fp fun K Z => ?_
 go_simp
 apply Z.out; clear Z K
 refine Fact.z hf fun fr1 hf1 hT => ?_
 have hKp : _ ∧ _ ∧ _ := ⟨hT 5, hT 6, hT 8⟩
 simp (decide := true) only [Fact.G, hf.size, reduceIte, s5, s6] at hKp
 replace hf := hf1; clear hT hf1 s3 s5 s6 s47 b48 b49 b50
 obtain ⟨s5, s6, s8⟩ := hKp
 refine nx (hK10 _ _ ?_)
 rcases val_cases (HVALS.out Ee.word hes.2) with ⟨hva, hfa⟩ | ⟨vv, x, hva, hfa, hvv⟩; rotate_left; have HVV := Lib.hid (show (init + vv) % M64 = valE x from hvv); clear hvv; have hox := (HLO.out x (List.mem_of_find?_eq_some hfa)).1
 · (
 have HVA := Lib.hid hva; have HFA := Lib.hid hfa; clear hva hfa
 refine Fact.sq fun K11 hK11 => ?_
 refine rg ?_
 have b52 := hf.b 52
 have b53 := hf.b 53
 have b54 := hf.b 54
 have b51 := hf.b 51
 have b55 := hf.b 55
 have b56 := hf.b 56
 refine fp fun K Z => ?_
 go_simp
 apply Z.out; clear Z K
 refine fp fun K Z => ?_
 go_simp
 apply Z.out; clear Z K
 refine fp fun K Z => ?_
 go_simp
 go_at_call 14; refine (value14 w7 _ init hini ss hrs HOO.out HCL.out (by omega) (by omega) Ee.word (by omega)).mono ?_; rintro e w8 ⟨rfl, hb8⟩
 rw [HVA.out]
 have hvr : valR init (some vv) = valE x := HVV.out
 rw [hvr]
 clear hvr
 simp only [Option.isSome]
 replace y0 := cL hb8 y0; replace y1 := cL hb8 y1; replace hrs := hrs.later hb8; replace hre1 := (hre1.below hb8).any
 replace x0 := cL hb8 x0; replace x1 := cL hb8 x1; replace x2 := cL hb8 x2
 replace hru := (hru.below hb8).more hb8.size
 replace hb0 := hb0.trans (hb8.mono hb0.size)
 try dsimp only
 apply Z.out; clear Z K
 refine fp fun K Z => ?_
 go_simp
 apply Z.out; clear Z K
 refine fp fun K Z => ?_
 go_simp
 apply Z.out; clear Z K
 refine fp fun K Z => ?_
 go_simp
 apply Z.out; clear Z K
 refine fp fun K Z => ?_
 go_simp
 apply Z.out; clear Z K
 refine fp fun K Z => ?_
 go_simp
 apply Z.out; clear Z K
 refine Fact.z hf fun fr1 hf1 hT => ?_
 have hKp : _ ∧ _ ∧ _ ∧ _ := ⟨hT 5, hT 8, hT 9, hT 10⟩
 simp (decide := true) only [Fact.G, hf.size, reduceIte, s5, s8] at hKp
 replace hf := hf1; clear hT hf1 s5 s6 s8 b52 b53 b54 b51 b55 b56
 obtain ⟨s5, s8, s9, s10⟩ := hKp
 refine nx (hK11 _ _ ?_)
 refine Fact.sq fun K12 hK12 => ?_
 refine rg ?_
 have b58 := hf.b 58
 have b59 := hf.b 59
 have b60 := hf.b 60
 have b57 := hf.b 57
 have b61 := hf.b 61
 have b62 := hf.b 62
 have b11 := hf.b 11
 refine fp fun K Z => ?_
 go_simp
 apply Z.out; clear Z K
 refine fp fun K Z => ?_
 go_simp
 apply Z.out; clear Z K
 refine fp fun K Z => ?_
 go_simp
 go_at_call 15; refine (find15 w8 own _ _ (Nat.le_refl _) hre1 (by omega) Ee.word).mono ?_; rintro e w9 ⟨rfl, hb9⟩
 rw [HFA.out]
 simp only [Option.isSome, Option.getD, eval]
 replace y0 := cL hb9 y0; replace y1 := cL hb9 y1; replace hrs := hrs.later hb9; replace hre1 := (hre1.below hb9).any
 replace x0 := cL hb9 x0; replace x1 := cL hb9 x1; replace x2 := cL hb9 x2
 replace hru := (hru.below hb9).more hb9.size
 replace hb0 := hb0.trans (hb9.mono hb0.size)
 try dsimp only
 apply Z.out; clear Z K
 refine fp fun K Z => ?_
 go_simp
 apply Z.out; clear Z K
 refine fp fun K Z => ?_
 go_simp
 apply Z.out; clear Z K
 refine fp fun K Z => ?_
 go_simp
 apply Z.out; clear Z K
 refine fp fun K Z => ?_
 go_simp
 apply Z.out; clear Z K
 refine fp fun K Z => ?_
 go_simp
 apply Z.out; clear Z K
 refine fp fun K Z => ?_
 go_simp
 apply Z.out; clear Z K
 refine Fact.z hf fun fr1 hf1 hT => ?_
 have hKp : _ ∧ _ ∧ _ ∧ _ := ⟨hT 9, hT 10, hT 11, hT 12⟩
 simp (decide := true) only [Fact.G, hf.size, reduceIte, s9, s10] at hKp
 replace hf := hf1; clear hT hf1 s5 s8 s9 s10 b58 b59 b60 b57 b61 b62 b11
 obtain ⟨s9, s10, s11, s12⟩ := hKp
 obtain ⟨W9, hW9⟩ : ∃ W0, w9.alloc (.cells #[.string x.word, .int .u32 x.weight, .bool x.gone] 42) = W0 := ⟨_, rfl⟩
 try rw [hW9]
 obtain ⟨hb10, e0, e1, e2, -, hz9_⟩ := box3 hW9
 clear hW9
 have hz9 : w9.heap.size < W9.heap.size := by rw [hz9_]; exact Nat.lt_succ_self _
 clear hz9_
 replace x0 := cL hb10 x0; replace x1 := cL hb10 x1; replace x2 := cL hb10 x2
 replace hru := (hru.below hb10).more hb10.size
 replace hb0 := hb0.trans (hb10.mono hb0.size)
 refine nx (hK12 _ _ ?_)
 refine Fact.sq fun K13 hK13 => ?_
 refine rg ?_
 have b63 := hf.b 63
 have b64 := hf.b 64
 have b65 := hf.b 65
 have b66 := hf.b 66
 have b67 := hf.b 67
 have b68 := hf.b 68
 have b69 := hf.b 69
 have b70 := hf.b 70
 have b71 := hf.b 71
 have b72 := hf.b 72
 have b73 := hf.b 73
 have b74 := hf.b 74
 have b75 := hf.b 75
 refine fp fun K Z => ?_
 go_simp
 apply Z.out; clear Z K
 refine fp fun K Z => ?_
 go_simp
 apply Z.out; clear Z K
 refine fp fun K Z => ?_
 go_simp
 apply Z.out; clear Z K
 refine fp fun K Z => ?_
 go_simp
 apply Z.out; clear Z K
 refine og 3 66 true ?_ fun K Z => ?_
 · (
 simp (decide := true) only [Fact.G, reduceIte, hf.size, Fact.N])
 go_simp
 apply Z.out; clear Z K
 refine og 3 66 true ?_ fun K Z => ?_
 · (
 simp (decide := true) only [Fact.G, reduceIte, hf.size, Fact.N])
 go_simp
 apply Z.out; clear Z K
 refine og 3 66 true ?_ fun K Z => ?_
 · (
 simp (decide := true) only [Fact.G, reduceIte, hf.size, Fact.N])
 go_simp
 apply Z.out; clear Z K
 refine og 6 69 false ?_ fun K Z => ?_
 · (
 simp (decide := true) only [Fact.G, reduceIte, hf.size, Fact.N])
 go_simp
 apply Z.out; clear Z K
 refine og 6 69 false ?_ fun K Z => ?_
 · (
 simp (decide := true) only [Fact.G, reduceIte, hf.size, Fact.N])
 go_simp
 apply Z.out; clear Z K
 refine og 6 69 false ?_ fun K Z => ?_
 · (
 simp (decide := true) only [Fact.G, reduceIte, hf.size, Fact.N])
 go_simp
 go_at_call 16; refine (rvalue16 x hox W9).mono ?_; rintro e w10 ⟨rfl, hb11⟩
 replace hb0 := hb0.trans (hb11.mono hb0.size)
 try dsimp only
 apply Z.out; clear Z K
 refine og 6 69 false ?_ fun K Z => ?_
 · (
 simp (decide := true) only [Fact.G, reduceIte, hf.size, Fact.N])
 go_simp
 apply Z.out; clear Z K
 refine og 3 66 true ?_ fun K Z => ?_
 · (
 simp (decide := true) only [Fact.G, reduceIte, hf.size, Fact.N])
 go_simp
 apply Z.out; clear Z K
 refine fp fun K Z => ?_
 go_simp
 apply Z.out; clear Z K
 refine fp fun K Z => ?_
 go_simp
 apply Z.out; clear Z K
 refine Fact.z hf fun fr1 hf1 hT => ?_
 have hKp := hT 4
 simp (decide := true) only [Fact.G, hf.size, reduceIte] at hKp
 replace hf := hf1; clear hT hf1 s9 s10 s11 s12 b63 b64 b65 b66 b67 b68 b69 b70 b71 b72 b73 b74 b75
 have s4 := hKp; clear hKp
 refine nx (hK13 _ _ ?_)
 refine wp_ret ?_
 exact Fact.ret1 rfl hf s4 ⟨by simp, hb0⟩)
 · (
 have HVA := Lib.hid hva; have HFA := Lib.hid hfa; clear hva hfa
 refine Fact.sq fun K14 hK14 => ?_
 refine rg ?_
 have b52 := hf.b 52
 have b53 := hf.b 53
 have b54 := hf.b 54
 have b51 := hf.b 51
 have b55 := hf.b 55
 have b56 := hf.b 56
 refine fp fun K Z => ?_
 go_simp
 apply Z.out; clear Z K
 refine fp fun K Z => ?_
 go_simp
 apply Z.out; clear Z K
 refine fp fun K Z => ?_
 go_simp
 go_at_call 14; refine (value14 w7 _ init hini ss hrs HOO.out HCL.out (by omega) (by omega) Ee.word (by omega)).mono ?_; rintro e w8 ⟨rfl, hb8⟩
 rw [HVA.out]
 have hvr : valR init none = 0 := rfl
 rw [hvr]
 clear hvr
 simp only [Option.isSome]
 replace y0 := cL hb8 y0; replace y1 := cL hb8 y1; replace hrs := hrs.later hb8; replace hre1 := (hre1.below hb8).any
 replace x0 := cL hb8 x0; replace x1 := cL hb8 x1; replace x2 := cL hb8 x2
 replace hru := (hru.below hb8).more hb8.size
 replace hb0 := hb0.trans (hb8.mono hb0.size)
 try dsimp only
 apply Z.out; clear Z K
 refine fp fun K Z => ?_
 go_simp
 apply Z.out; clear Z K
 refine fp fun K Z => ?_
 go_simp
 apply Z.out; clear Z K
 refine fp fun K Z => ?_
 go_simp
 apply Z.out; clear Z K
 refine fp fun K Z => ?_
 go_simp
 apply Z.out; clear Z K
 refine fp fun K Z => ?_
 go_simp
 apply Z.out; clear Z K
 refine Fact.z hf fun fr1 hf1 hT => ?_
 have hKp : _ ∧ _ ∧ _ ∧ _ := ⟨hT 5, hT 8, hT 9, hT 10⟩
 simp (decide := true) only [Fact.G, hf.size, reduceIte, s5, s8] at hKp
 replace hf := hf1; clear hT hf1 s5 s6 s8 b52 b53 b54 b51 b55 b56
 obtain ⟨s5, s8, s9, s10⟩ := hKp
 refine nx (hK14 _ _ ?_)
 refine Fact.sq fun K15 hK15 => ?_
 refine rg ?_
 have b58 := hf.b 58
 have b59 := hf.b 59
 have b60 := hf.b 60
 have b57 := hf.b 57
 have b61 := hf.b 61
 have b62 := hf.b 62
 have b11 := hf.b 11
 refine fp fun K Z => ?_
 go_simp
 apply Z.out; clear Z K
 refine fp fun K Z => ?_
 go_simp
 apply Z.out; clear Z K
 refine fp fun K Z => ?_
 go_simp
 go_at_call 15; refine (find15 w8 own _ _ (Nat.le_refl _) hre1 (by omega) Ee.word).mono ?_; rintro e w9 ⟨rfl, hb9⟩
 rw [HFA.out]
 simp only [Option.isSome, Option.getD, eval]
 replace y0 := cL hb9 y0; replace y1 := cL hb9 y1; replace hrs := hrs.later hb9; replace hre1 := (hre1.below hb9).any
 replace x0 := cL hb9 x0; replace x1 := cL hb9 x1; replace x2 := cL hb9 x2
 replace hru := (hru.below hb9).more hb9.size
 replace hb0 := hb0.trans (hb9.mono hb0.size)
 try dsimp only
 apply Z.out; clear Z K
 refine fp fun K Z => ?_
 go_simp
 apply Z.out; clear Z K
 refine fp fun K Z => ?_
 go_simp
 apply Z.out; clear Z K
 refine fp fun K Z => ?_
 go_simp
 apply Z.out; clear Z K
 refine fp fun K Z => ?_
 go_simp
 apply Z.out; clear Z K
 refine fp fun K Z => ?_
 go_simp
 apply Z.out; clear Z K
 refine fp fun K Z => ?_
 go_simp
 apply Z.out; clear Z K
 refine Fact.z hf fun fr1 hf1 hT => ?_
 have hKp : _ ∧ _ ∧ _ ∧ _ := ⟨hT 9, hT 10, hT 11, hT 12⟩
 simp (decide := true) only [Fact.G, hf.size, reduceIte, s9, s10] at hKp
 replace hf := hf1; clear hT hf1 s5 s8 s9 s10 b58 b59 b60 b57 b61 b62 b11
 obtain ⟨s9, s10, s11, s12⟩ := hKp
 obtain ⟨W9, hW9⟩ : ∃ W0, w9.alloc (.cells #[.string ⟨#[]⟩, .int .u32 0, .bool false] 42) = W0 := ⟨_, rfl⟩
 try rw [hW9]
 obtain ⟨hb10, e0, e1, e2, -, hz9_⟩ := box3 hW9
 clear hW9
 have hz9 : w9.heap.size < W9.heap.size := by rw [hz9_]; exact Nat.lt_succ_self _
 clear hz9_
 replace x0 := cL hb10 x0; replace x1 := cL hb10 x1; replace x2 := cL hb10 x2
 replace hru := (hru.below hb10).more hb10.size
 replace hb0 := hb0.trans (hb10.mono hb0.size)
 refine nx (hK15 _ _ ?_)
 refine Fact.sq fun K16 hK16 => ?_
 refine rg ?_
 have b63 := hf.b 63
 have b64 := hf.b 64
 have b65 := hf.b 65
 have b66 := hf.b 66
 have b67 := hf.b 67
 have b68 := hf.b 68
 have b69 := hf.b 69
 have b70 := hf.b 70
 have b71 := hf.b 71
 have b72 := hf.b 72
 have b73 := hf.b 73
 have b74 := hf.b 74
 have b75 := hf.b 75
 refine fp fun K Z => ?_
 go_simp
 apply Z.out; clear Z K
 refine fp fun K Z => ?_
 go_simp
 apply Z.out; clear Z K
 refine fp fun K Z => ?_
 go_simp
 apply Z.out; clear Z K
 refine fp fun K Z => ?_
 go_simp
 apply Z.out; clear Z K
 refine og 3 66 true ?_ fun K Z => ?_
 · (
 simp (decide := true) only [Fact.G, reduceIte, hf.size, Fact.N])
 go_simp
 apply Z.out; clear Z K
 refine og 3 66 true ?_ fun K Z => ?_
 · (
 simp (decide := true) only [Fact.G, reduceIte, hf.size, Fact.N])
 go_simp
 apply Z.out; clear Z K
 refine og 3 66 true ?_ fun K Z => ?_
 · (
 simp (decide := true) only [Fact.G, reduceIte, hf.size, Fact.N])
 go_simp
 apply Z.out; clear Z K
 refine sk 6 69 false ?_ ?_
 · (
 simp (decide := true) only [Fact.G, reduceIte, hf.size, Fact.N])
 refine sk 6 69 false ?_ ?_
 · (
 simp (decide := true) only [Fact.G, reduceIte, hf.size, Fact.N])
 refine sk 6 69 false ?_ ?_
 · (
 simp (decide := true) only [Fact.G, reduceIte, hf.size, Fact.N])
 refine sk 6 69 false ?_ ?_
 · (
 simp (decide := true) only [Fact.G, reduceIte, hf.size, Fact.N])
 refine og 3 66 true ?_ fun K Z => ?_
 · (
 simp (decide := true) only [Fact.G, reduceIte, hf.size, Fact.N])
 go_simp
 apply Z.out; clear Z K
 refine fp fun K Z => ?_
 go_simp
 apply Z.out; clear Z K
 refine fp fun K Z => ?_
 go_simp
 apply Z.out; clear Z K
 refine Fact.z hf fun fr1 hf1 hT => ?_
 have hKp := hT 4
 simp (decide := true) only [Fact.G, hf.size, reduceIte] at hKp
 replace hf := hf1; clear hT hf1 s9 s10 s11 s12 b63 b64 b65 b66 b67 b68 b69 b70 b71 b72 b73 b74 b75
 have s4 := hKp; clear hKp
 refine nx (hK16 _ _ ?_)
 refine wp_ret ?_
 exact Fact.ret1 rfl hf s4 ⟨rfl, hb0⟩)
end Dw
end Go.Proofs.YtgjfhedgdbbinaaDoor
