/- pack: PackSmall. -/
import Derived.Test.YtdkbgbdgmihlmaaGreatDoorPSm0
import Derived.Test.YtdkbgbdgmihlmaaGreatDoorQS
import Derived.Test.YtdkbgbdgmihlmaaGreatDoorTools
namespace Go.Proofs.YtdkbgbdgmihlmaaGreatDoor
open Go.RowKit
set_option linter.unusedSimpArgs false
set_option linter.unusedVariables false
set_option linter.unnecessarySimpa false
namespace Dw

theorem dra_size (d : Dra) : d.ent.word.size ≤ 9 ∧ 0 < d.ent.word.size := by
  unfold Dra.ent
  rw [bareE_word]
  have := dword_size d.letters
  exact ⟨this.2, this.1⟩
theorem ent_size (d : Dra) : d.ent.word.size ≤ 9 ∧ 0 < d.ent.word.size := dra_size d
theorem list_short {ds : List Dra} {n : Nat} : ∀ e ∈ listOf ds n, e.word.size ≤ 12 := fun e he => by
  rcases with_mem _ he with h1 | ⟨x, hx, rfl⟩
  · cases h1
  · rw [bareE_word]
    unfold entsOf at hx
    obtain ⟨d, _, rfl⟩ := List.mem_map.1 hx
    have := (dra_size d).1
    omega
theorem own_pos {es : List Ent} (hok : ∀ e ∈ es, okE e ∧ okW e.word = true ∧ bareE e = e) (hr : RiseE es) : 0 < (buildF es).states.length := by
  rw [own_classes hok hr]
  unfold classesE
  omega
theorem own_closed {es : List Ent} (hok : ∀ e ∈ es, okE e ∧ okW e.word = true ∧ bareE e = e) (hr : RiseE es) : ∀ s ∈ (buildF es).states, ∀ a ∈ s.arcs, 0 ≤ a.to ∧ a.to < ((buildF es).states.length : Int) := by
  rw [own_build hok hr]
  by_cases hn : es = []
  · subst hn
    intro s hs a ha
    have h0 : (build (([] : List Ent).map wvE)).states = [zeroS] := rfl
    rw [h0] at hs
    simp at hs
    subst hs
    cases ha
  · have hn2 : es.map wvE ≠ [] := by simpa using hn
    rw [build_K (own_lt hok hr) hn2 (own_rise hok hr)]
    obtain ⟨hI, _⟩ := K_ok 256 (es.map wvE) [] (own_lt hok hr) hn2 (own_rise hok hr) Inv.nil_
    intro s hs a ha
    obtain ⟨i, hi⟩ := List.mem_iff_getElem?.1 hs
    have h1 := formed_ahead0 _ _ _ (hI.good i s hi).arcs a ha
    have h2 : i < (K 256 [] (es.map wvE)).1.length := (List.getElem?_eq_some_iff.1 hi).1
    refine ⟨h1.1, ?_⟩
    show a.to < (((K 256 [] (es.map wvE)).1.length : Nat) : Int)
    omega
theorem own_right {es : List Ent} (hok : ∀ e ∈ es, okE e ∧ okW e.word = true ∧ bareE e = e) (hr : RiseE es) : rightF (buildF es).states (buildF es).init = true := by
  rw [own_build hok hr]
  exact build_right (own_lt hok hr) (own_rise hok hr)
theorem own_init_lt {es : List Ent} (hok : ∀ e ∈ es, okE e ∧ okW e.word = true ∧ bareE e = e) (hr : RiseE es) : (buildF es).init < M64 := by
  rw [own_init hok hr]
  by_cases hn : es = []
  · subst hn; decide
  · obtain ⟨e, l, rfl⟩ := List.exists_cons_of_ne_nil hn
    have h1 := leastV_le (l := (e :: l).map wvE) (wvE e) (List.mem_map_of_mem (List.mem_cons_self ..))
    have h2 := valE_lt (hok e (List.mem_cons_self ..)).1
    have h3 : leastV ((e :: l).map wvE) ≤ valE e := h1
    unfold M64
    omega
theorem okW_pos {s : ByteArray} (h : okW s = true) : 0 < s.size := by
  rw [okW_eq] at h
  simp at h
  omega
theorem wrap_next {k : Nat} (h : k ≤ 100) : IntKind.u8.wrap (((97 + k : Nat) : Int) + 1) = ((97 + (k + 1) : Nat) : Int) := by
  rw [Fact.wrap_u8 (by omega) (by omega)]; omega
theorem conv_three (w : World) (x y : Nat) : (convert 23 9 (.slice (some ⟨w.heap.size, 0, none⟩) 3 3)).run Tryz.prog (w.alloc (.cells #[.int .u8 x, .int .u8 y, .int .u8 122] 5)) = .ok (.string (bl [x, y, 122])) (w.alloc (.cells #[.int .u8 x, .int .u8 y, .int .u8 122] 5)) := by
  refine run_convert_bytes_arg (P := Tryz.prog) _ 23 5 Tryz.underlying23 Tryz.underlying5 w.heap.size 0 3 3 [(x : Int), (y : Int), 122] rfl (fun i hi => ?_) 9 Tryz.underlying9
  have h := lit_new w [.int .u8 x, .int .u8 y, .int .u8 122] 5
  match i, hi with
  | 0, _ => exact (h 0 _ rfl)
  | 1, _ => exact (h 1 _ rfl)
  | 2, _ => exact (h 2 _ rfl)
set_option maxHeartbeats 4000000 in
set_option maxRecDepth 100000 in
theorem small3 (w : World) (ds : List Dra) (dv : Value) (hrd : RDs w w.heap.size dv ds) (hokd : ∀ d ∈ ds, okD d) (d : Dra) (lv : Value) (hru : RU w w.heap.size lv d.letters) (hokd1 : okD d) (hE : ETy w) : Calls Tryz.prog 3 #[dv, .agg #[lv, .int .u32 d.weight, .bool d.gone]] w fun e w1 => e = .returned (.bool true) ∧ Below w.heap.size w w1 := by
 refine calls_of_wp Tryz.func3 rfl ?_
 refine Fact.en 157 fun fr hf hT => ?_
 have s0 := hT 0 _ rfl
 have s1 := hT 1 _ rfl
 clear hT
 have hnq : ∀ w' : World, (binOp .neq 40 .nilIface .nilIface).run Tryz.prog w' = .ok (.bool false) w' := fun w' => by kernel_rfl
 have hlo := (list_ok (n := 30) hokd).1
 have hlr := (list_ok (n := 30) hokd).2.1
 have hll := (list_ok (n := 30) hokd).2.2
 have hsh := list_short (n := 30) (ds := ds)
 have hlc := list_chk (n := 30) hokd
 obtain ⟨own, hown⟩ : ∃ x, listOf ds 30 = x := ⟨_, rfl⟩
 rw [hown] at hlo hlr hll hsh hlc
 have HOWN := Lib.hid hown; have HLO := Lib.hid hlo; have HLR := Lib.hid hlr; have HSH := Lib.hid hsh; have HLC := Lib.hid hlc; clear hown hlo hlr hsh hlc
 refine Fact.sq fun K1 hK1 => ?_
 refine rg ?_
 iterate 2 (refine fp fun K Z => ?_; go_simp; apply Z.out; clear Z K)
 refine Fact.z hf fun fr1 hf1 hT => ?_
 have hKp : _ ∧ _ := ⟨hT 0, hT 3⟩
 simp (decide := true) only [Fact.G, hf.size, reduceIte, s0] at hKp
 replace hf := hf1; clear hT hf1 s0 s1
 obtain ⟨s0, s3⟩ := hKp
 obtain ⟨W0, hW0⟩ : ∃ W0, w.alloc (.cells #[lv, .int .u32 d.weight, .bool d.gone] 26) = W0 := ⟨_, rfl⟩
 try rw [hW0]
 obtain ⟨hb0, x0, x1, x2, -, hz0_⟩ := box3 hW0
 clear hW0
 have hz0 : w.heap.size < W0.heap.size := by rw [hz0_]; exact Nat.lt_succ_self _
 clear hz0_
 replace hrd := (hrd.below hb0).more hb0.size
 replace hru := (hru.below hb0).more hb0.size
 replace hE := cL hb0 hE
 refine nx (hK1 _ _ ?_)
 refine Fact.sq fun K2 hK2 => ?_
 refine Fact.sq fun K3 hK3 => ?_
 refine rg ?_
 have b27 := hf.b 27
 refine fp fun K Z => ?_
 go_simp
 go_at_call 4; refine (works13 W0 hE).mono ?_; rintro e w1 ⟨rfl, hb1⟩
 replace hrd := (hrd.below hb1).more hb1.size
 replace x0 := cL hb1 x0; replace x1 := cL hb1 x1; replace x2 := cL hb1 x2; replace hE := cL hb1 hE
 replace hru := (hru.below hb1).more hb1.size
 replace hb0 := hb0.trans (hb1.mono hb0.size)
 try dsimp only
 apply Z.out; clear Z K
 refine fp fun K Z => ?_
 go_simp
 apply Z.out; clear Z K
 refine Fact.z hf fun fr1 hf1 hT => ?_
 have hKp : _ ∧ _ ∧ _ := ⟨hT 0, hT 3, hT 28⟩
 simp (decide := true) only [Fact.G, hf.size, reduceIte, s0, s3] at hKp
 replace hf := hf1; clear hT hf1 s0 s3 b27
 obtain ⟨s0, s3, s28⟩ := hKp
 refine nx (hK3 _ _ ?_)
 refine Fact.cond_f s28 ?_
 refine wp_skip ?_
 refine nx (hK2 _ _ ?_)
 refine Fact.sq fun K4 hK4 => ?_
 refine rg ?_
 have b29 := hf.b 29
 have b30 := hf.b 30
 refine fp fun K Z => ?_
 go_simp
 apply Z.out; clear Z K
 refine fp fun K Z => ?_
 go_simp
 go_at_call 5; refine (list_ w1 ds 30 (by omega) dv hrd hokd).mono ?_; rintro e w2 ⟨v1, rfl, how1, hb2⟩
 rw [HOWN.out] at how1
 have hre1 := OE.re (es := own) how1
 obtain ⟨A1, c1, hv1, hc1⟩ := OE.form (es := own) how1
 subst hv1
 replace x0 := cL hb2 x0; replace x1 := cL hb2 x1; replace x2 := cL hb2 x2; replace hE := cL hb2 hE
 replace hru := (hru.below hb2).more hb2.size
 replace hb0 := hb0.trans (hb2.mono hb0.size)
 try dsimp only
 apply Z.out; clear Z K
 refine fp fun K Z => ?_
 go_simp
 apply Z.out; clear Z K
 refine Fact.z hf fun fr1 hf1 hT => ?_
 have hKp : _ ∧ _ := ⟨hT 3, hT 5⟩
 simp (decide := true) only [Fact.G, hf.size, reduceIte, s3] at hKp
 replace hf := hf1; clear hT hf1 s0 s3 s28 b29 b30
 obtain ⟨s3, s5⟩ := hKp
 clear how1 hrd hb2
 refine nx (hK4 _ _ ?_)
 refine Fact.sq fun K5 hK5 => ?_
 refine rg ?_
 have b32 := hf.b 32
 have b33 := hf.b 33
 have b31 := hf.b 31
 have b34 := hf.b 34
 have b35 := hf.b 35
 have b6 := hf.b 6
 refine fp fun K Z => ?_
 go_simp
 apply Z.out; clear Z K
 refine fp fun K Z => ?_
 go_simp
 go_at_call 6; refine (build8 w2 own _ _ (Nat.le_refl _) hre1 (by omega) (fun e he => (HLO.out e he).1)).mono ?_; rintro e w3 ⟨sv, rfl, hrs, hgs, hls, hb3⟩
 rw [show chkN own = 0 from HLC.out]
 replace hre1 := (hre1.below hb3).any
 replace x0 := cL hb3 x0; replace x1 := cL hb3 x1; replace x2 := cL hb3 x2; replace hE := cL hb3 hE
 replace hru := (hru.below hb3).more hb3.size
 replace hb0 := hb0.trans (hb3.mono hb0.size)
 try dsimp only
 apply Z.out; clear Z K
 have hvals := own_val HLO.out HLR.out
 have hini := own_init_lt HLO.out HLR.out
 have hcld := own_closed HLO.out HLR.out
 have hpos := own_pos HLO.out HLR.out
 have hrgt := own_right HLO.out HLR.out
 obtain ⟨ss, hss⟩ : ∃ x, (buildF own).states = x := ⟨_, rfl⟩
 obtain ⟨init, hin⟩ : ∃ x, (buildF own).init = x := ⟨_, rfl⟩
 rw [hss] at hrs hgs hls hvals hcld hpos hrgt
 rw [hin] at hvals hini hrgt
 rw [hin]
 have hoo : ∀ s ∈ ss, okS s := fun s hs => (hgs s hs).ok
 have hfe : ∀ s ∈ ss, s.arcs.length ≤ 256 := fun s hs => (hgs s hs).few
 have hma := mayF_right (n := own.length) (by omega) hrgt hfe
 have hln : ss.length ≤ 10000 := by omega
 have hrt := pGet_put hma hoo (by omega) hini
 have hsz := put_mid hoo hln (by omega) hma hini
 have hpc := put_codeS (i := init) hma
 rw [Int.toNat_natCast] at hrt
 have hfw : ∀ s ∈ ss, s.arcs.length ≤ 1000 := fun s hs => by have := hfe s hs; omega
 obtain ⟨S, hS⟩ : ∃ x, bl (putR own.length init ss).1 = x := ⟨_, rfl⟩
 rw [hS] at hrt hsz
 have HVALS := Lib.hid hvals; have HCL := Lib.hid hcld; have HRG := Lib.hid hrgt; have HOO := Lib.hid hoo; have HFW := Lib.hid hfw; have HRT := Lib.hid hrt; have HS := Lib.hid hS; have HPC := Lib.hid hpc; clear hvals hcld hrgt hoo hgs hss hin hfe hfw hma hrt hS hpc
 obtain ⟨A3, c3, rfl, _⟩ := hrs.form
 iterate 6 (refine fp fun K Z => ?_; go_simp; apply Z.out; clear Z K)
 refine Fact.z hf fun fr1 hf1 hT => ?_
 have hKp : _ ∧ _ ∧ _ ∧ _ := ⟨hT 3, hT 5, hT 6, hT 7⟩
 simp (decide := true) only [Fact.G, hf.size, reduceIte, s3, s5] at hKp
 replace hf := hf1; clear hT hf1 s3 s5 b32 b33 b31 b34 b35 b6
 obtain ⟨s3, s5, s6, s7⟩ := hKp
 obtain ⟨W3, hW3⟩ : ∃ W0, w3.alloc (.cells #[.slice A3 ss.length c3, .int .u64 init] 33) = W0 := ⟨_, rfl⟩
 try rw [hW3]
 obtain ⟨hb4, y0, y1, -, hz4_⟩ := box2 hW3
 clear hW3
 have hz4 : w3.heap.size < W3.heap.size := by rw [hz4_]; exact Nat.lt_succ_self _
 clear hz4_
 replace hrs := hrs.later hb4
 replace hre1 := (hre1.below hb4).any
 replace x0 := cL hb4 x0; replace x1 := cL hb4 x1; replace x2 := cL hb4 x2; replace hE := cL hb4 hE
 replace hru := (hru.below hb4).more hb4.size
 replace hb0 := hb0.trans (hb4.mono hb0.size)
 clear hb3 hb4
 refine nx (hK5 _ _ ?_)
 refine Fact.sq fun K6 hK6 => ?_
 refine rg ?_
 have b37 := hf.b 37
 have b38 := hf.b 38
 have b39 := hf.b 39
 have b40 := hf.b 40
 have b36 := hf.b 36
 have b41 := hf.b 41
 have b42 := hf.b 42
 iterate 3 (refine fp fun K Z => ?_; go_simp; apply Z.out; clear Z K)
 refine fp fun K Z => ?_
 go_simp
 go_at_call 7; refine (put14 W3 own.length _ init ss hrs HOO.out (by omega) HFW.out hini).mono ?_; rintro e w4 ⟨rfl, hb5⟩
 rw [HS.out, HPC.out]
 replace hre1 := (hre1.below hb5).any
 replace x0 := cL hb5 x0; replace x1 := cL hb5 x1; replace x2 := cL hb5 x2; replace hE := cL hb5 hE
 replace hru := (hru.below hb5).more hb5.size
 replace hb0 := hb0.trans (hb5.mono hb0.size)
 try dsimp only
 apply Z.out; clear Z K
 iterate 5 (refine fp fun K Z => ?_; go_simp; apply Z.out; clear Z K)
 refine Fact.z hf fun fr1 hf1 hT => ?_
 have hKp : _ ∧ _ ∧ _ ∧ _ ∧ _ := ⟨hT 3, hT 5, hT 7, hT 8, hT 9⟩
 simp (decide := true) only [Fact.G, hf.size, reduceIte, s3, s5, s7] at hKp
 replace hf := hf1; clear hT hf1 s3 s5 s6 s7 b37 b38 b39 b40 b36 b41 b42
 obtain ⟨s3, s5, s7, s8, s9⟩ := hKp
 clear hrs y0 y1 hb5
 refine nx (hK6 _ _ ?_)
 refine Fact.sq fun K7 hK7 => ?_
 refine rg ?_
 have b44 := hf.b 44
 have b45 := hf.b 45
 have b43 := hf.b 43
 have b46 := hf.b 46
 have b47 := hf.b 47
 have b48 := hf.b 48
 have b11 := hf.b 11
 refine fp fun K Z => ?_
 go_simp
 apply Z.out; clear Z K
 refine fp fun K Z => ?_
 go_simp
 go_at_call 8; refine (get15 w4 S hsz).mono ?_; rintro e w5 hget
 rw [HRT.out] at hget
 obtain ⟨svk, rfl, hrs, hb6⟩ := hget
 obtain ⟨A5, c5, rfl, hc5⟩ := hrs.form
 try dsimp only
 replace hre1 := (hre1.below hb6).any
 replace x0 := cL hb6 x0; replace x1 := cL hb6 x1; replace x2 := cL hb6 x2; replace hE := cL hb6 hE
 replace hru := (hru.below hb6).more hb6.size
 replace hb0 := hb0.trans (hb6.mono hb0.size)
 try dsimp only
 apply Z.out; clear Z K
 iterate 8 (refine fp fun K Z => ?_; go_simp; apply Z.out; clear Z K)
 refine Fact.z hf fun fr1 hf1 hT => ?_
 have hKp : _ ∧ _ ∧ _ ∧ _ ∧ _ ∧ _ ∧ _ := ⟨hT 3, hT 5, hT 7, hT 9, hT 10, hT 11, hT 12⟩
 simp (decide := true) only [Fact.G, hf.size, reduceIte, s3, s5, s7, s9] at hKp
 replace hf := hf1; clear hT hf1 s3 s5 s7 s8 s9 b44 b45 b43 b46 b47 b48 b11
 obtain ⟨s3, s5, s7, s9, s10, s11, s12⟩ := hKp
 obtain ⟨W5, hW5⟩ : ∃ W0, w5.alloc (.cells #[.slice A5 ss.length c5, .int .u64 init] 33) = W0 := ⟨_, rfl⟩
 try rw [hW5]
 obtain ⟨hb7, y0, y1, -, -⟩ := box2 hW5
 clear hW5
 replace hrs := hrs.later hb7
 replace hre1 := (hre1.below hb7).any
 replace x0 := cL hb7 x0; replace x1 := cL hb7 x1; replace x2 := cL hb7 x2; replace hE := cL hb7 hE
 replace hru := (hru.below hb7).more hb7.size
 replace hb0 := hb0.trans (hb7.mono hb0.size)
 clear hb6 hb7
 refine nx (hK7 _ _ ?_)
 have q2 : (((own.length : Nat) : Int) != ((own.length : Nat) : Int)) = false := by simp
 refine Fact.sq fun K8 hK8 => ?_
 refine Fact.sq fun K9 hK9 => ?_
 refine rg ?_
 have b49 := hf.b 49
 have b50 := hf.b 50
 have b51 := hf.b 51
 have b52 := hf.b 52
 have b53 := hf.b 53
 have b54 := hf.b 54
 have b55 := hf.b 55
 have b56 := hf.b 56
 have b57 := hf.b 57
 have b58 := hf.b 58
 have b59 := hf.b 59
 have b60 := hf.b 60
 have b61 := hf.b 61
 have b62 := hf.b 62
 have b63 := hf.b 63
 have b64 := hf.b 64
 have b65 := hf.b 65
 have b66 := hf.b 66
 have b67 := hf.b 67
 have b68 := hf.b 68
 iterate 3 (refine fp fun K Z => ?_; go_simp; apply Z.out; clear Z K)
 refine og 2 51 false ?_ fun K Z => ?_
 · (
 simp (decide := true) only [Fact.G, reduceIte, hf.size])
 go_simp
 apply Z.out; clear Z K
 refine og 2 51 false ?_ fun K Z => ?_
 · (
 simp (decide := true) only [Fact.G, reduceIte, hf.size])
 go_simp
 apply Z.out; clear Z K
 iterate 2 (refine fp fun K Z => ?_; go_simp; apply Z.out; clear Z K)
 refine og 6 55 false ?_ fun K Z => ?_
 · (
 simp (decide := true) only [Fact.G, reduceIte, hf.size])
 go_simp
 apply Z.out; clear Z K
 refine og 6 55 false ?_ fun K Z => ?_
 · (
 simp (decide := true) only [Fact.G, reduceIte, hf.size])
 go_simp
 try rw [hnq]
 try rw [Oper.upon_value]
 apply Z.out; clear Z K
 iterate 2 (refine fp fun K Z => ?_; go_simp; apply Z.out; clear Z K)
 refine og 10 59 false ?_ fun K Z => ?_
 · (
 simp (decide := true) only [Fact.G, reduceIte, hf.size])
 go_simp
 apply Z.out; clear Z K
 refine og 10 59 false ?_ fun K Z => ?_
 · (
 simp (decide := true) only [Fact.G, reduceIte, hf.size])
 go_simp
 apply Z.out; clear Z K
 refine og 10 59 false ?_ fun K Z => ?_
 · (
 simp (decide := true) only [Fact.G, reduceIte, hf.size])
 go_simp
 apply Z.out; clear Z K
 refine og 10 59 false ?_ fun K Z => ?_
 · (
 simp (decide := true) only [Fact.G, reduceIte, hf.size])
 go_simp
 apply Z.out; clear Z K
 iterate 2 (refine fp fun K Z => ?_; go_simp; apply Z.out; clear Z K)
 refine og 16 65 false ?_ fun K Z => ?_
 · (
 simp (decide := true) only [Fact.G, reduceIte, hf.size])
 go_simp
 apply Z.out; clear Z K
 refine og 16 65 false ?_ fun K Z => ?_
 · (
 simp (decide := true) only [Fact.G, reduceIte, hf.size])
 go_simp
 go_at_call 9; refine (right9 W5 _ init ss hrs HOO.out (by omega)).mono ?_; rintro e w6 ⟨rfl, hb8⟩
 rw [HRG.out]
 replace y0 := cL hb8 y0; replace y1 := cL hb8 y1; replace hrs := hrs.later hb8; replace hre1 := (hre1.below hb8).any
 replace x0 := cL hb8 x0; replace x1 := cL hb8 x1; replace x2 := cL hb8 x2; replace hE := cL hb8 hE
 replace hru := (hru.below hb8).more hb8.size
 replace hb0 := hb0.trans (hb8.mono hb0.size)
 try dsimp only
 apply Z.out; clear Z K
 refine og 16 65 false ?_ fun K Z => ?_
 · (
 simp (decide := true) only [Fact.G, reduceIte, hf.size])
 go_simp
 apply Z.out; clear Z K
 refine fp fun K Z => ?_
 go_simp
 apply Z.out; clear Z K
 refine Fact.z hf fun fr1 hf1 hT => ?_
 have hKp : _ ∧ _ ∧ _ ∧ _ := ⟨hT 3, hT 5, hT 11, hT 69⟩
 simp (decide := true) only [Fact.G, hf.size, reduceIte, s3, s5, s11] at hKp
 replace hf := hf1; clear hT hf1 s3 s5 s7 s9 s10 s11 s12 b49 b50 b51 b52 b53 b54 b55 b56 b57 b58 b59 b60 b61 b62 b63 b64 b65 b66 b67 b68
 obtain ⟨s3, s5, s11, s69⟩ := hKp
 refine nx (hK9 _ _ ?_)
 refine Fact.cond_f s69 ?_
 clear q2
 refine wp_skip ?_
 refine nx (hK8 _ _ ?_)
 refine Fact.sq fun K10 hK10 => ?_
 refine Fact.sq fun K11 hK11 => ?_
 refine rg ?_
 refine fp fun K Z => ?_
 go_simp
 apply Z.out; clear Z K
 refine Fact.z hf fun fr1 hf1 hT => ?_
 have hKp : _ ∧ _ ∧ _ ∧ _ := ⟨hT 3, hT 5, hT 11, hT 13⟩
 simp (decide := true) only [Fact.G, hf.size, reduceIte, s3, s5, s11] at hKp
 replace hf := hf1; clear hT hf1 s3 s5 s11 s69
 obtain ⟨s3, s5, s11, s13⟩ := hKp
 refine nx (hK11 _ _ ?_)
 refine wp_block ?_
 refine wp_loop_ghost (fun gk fr wr => ∃ (i : Nat), gk = own.length - i ∧ i ≤ own.length ∧ Fact.Fr 157 fr ∧ fr.tmps[3]? = some (.pointer (some ⟨w.heap.size, 0, none⟩)) ∧ fr.tmps[5]? = some (.slice A1 own.length c1) ∧ fr.tmps[11]? = some (.pointer (some ⟨w5.heap.size, 0, none⟩)) ∧ fr.tmps[13]? = some (.int .i64 i) ∧ wr.cell? ⟨w.heap.size, 0, none⟩ = some lv ∧ wr.cell? ⟨w.heap.size, 1, none⟩ = some (.int .u32 d.weight) ∧ wr.cell? ⟨w.heap.size, 2, none⟩ = some (.bool d.gone) ∧ wr.cell? ⟨w5.heap.size, 0, none⟩ = some (.slice A5 ss.length c5) ∧ wr.cell? ⟨w5.heap.size, 1, none⟩ = some (.int .u64 init) ∧ RS wr (.slice A5 ss.length c5) ss ∧ RE wr wr.heap.size (.slice A1 own.length c1) own ∧ RU wr wr.heap.size lv d.letters ∧ Below w.heap.size w wr) (own.length) ?_ ?_
 · (
 exact ⟨0, rfl, Nat.zero_le _, hf, s3, s5, s11, s13, x0, x1, x2, y0, y1, hrs, hre1, hru, hb0⟩)
 · (
 clear hf s3 s5 s11 s13
 clear x0 x1 x2 y0 y1 hrs hre1 hru hb0 hE hnq
 rintro gk fr wr ⟨i, hk, hi, hf, s3, s5, s11, s13, x0, x1, x2, y0, y1, hrs, hre1, hru, hb0⟩
 have HK := Lib.hid hk; clear hk
 refine Fact.sq fun K12 hK12 => ?_
 refine Fact.sq fun K13 hK13 => ?_
 refine rg ?_
 have b70 := hf.b 70
 have b71 := hf.b 71
 have b72 := hf.b 72
 iterate 4 (refine fp fun K Z => ?_; go_simp; apply Z.out; clear Z K)
 refine Fact.z hf fun fr1 hf1 hT => ?_
 have hKp : _ ∧ _ ∧ _ ∧ _ ∧ _ := ⟨hT 3, hT 5, hT 11, hT 13, hT 73⟩
 simp (decide := true) only [Fact.G, hf.size, reduceIte, s3, s5, s11, s13] at hKp
 replace hf := hf1; clear hT hf1 s3 s5 s11 s13 b70 b71 b72
 obtain ⟨s3, s5, s11, s13, s73⟩ := hKp
 refine nx (hK13 _ _ ?_)
 refine Fact.cond_s s73 (fun hq => ?_) (fun hq => ?_)
 · (
 have hlt : i < own.length := by have h9 := of_decide_eq_true hq; omega
 clear hq
 obtain ⟨e, hie⟩ : ∃ e, own[i]? = some e := ⟨_, List.getElem?_eq_getElem hlt⟩
 obtain ⟨b, off, hA1, hbB, hbl, d0, d1, d2⟩ := hre1.at_ hie
 subst hA1
 have hem := List.mem_of_getElem? hie
 have hoe := (HLO.out e hem).1
 have hsz1 := HSH.out e hem
 have hfo := find_own HLR.out hie
 have hpw : 0 < e.word.size := okW_pos (HLO.out e hem).2.1
 have hvv := HVALS.out e.word hpw
 rw [hfo] at hvv
 obtain ⟨vv, hva, hve⟩ := Option.map_eq_some_iff.1 (hvv : _ = some (valE e))
 have HVA := Lib.hid hva; have hvr : valR init (some vv) = valE e := hve
 have HVR := Lib.hid hvr; clear hva hve hvv hfo hvr hem hie
 refine wp_skip ?_
 refine nx (hK12 _ _ ?_)
 refine Fact.sq fun K14 hK14 => ?_
 refine wp_block ?_
 refine Fact.sq fun K15 hK15 => ?_
 refine Stab.tb 157 fun hok => ?_
 apply Stab.tq 0 _ hf hok
 · (
 intro fr1 w1 hh hd hk K Z
 have s11 := Stab.O hh s11
 clear hd
 replace y0 := cL hh.ext y0
 replace y1 := cL hh.ext y1
 replace hrs := hrs.later hh.ext
 replace hre1 := (hre1.below hh.ext).any
 replace x0 := cL hh.ext x0
 replace x1 := cL hh.ext x1
 replace x2 := cL hh.ext x2
 replace hru := (hru.below hh.ext).more (hh.ext).size
 replace hb0 := hb0.trans ((hh.ext).mono hb0.size)
 replace d0 := cL hh.ext d0
 replace d1 := cL hh.ext d1
 replace d2 := cL hh.ext d2
 go_simp
 exact Stab.k Z)
 refine Stab.mO 1 s5 hf hok ?_
 refine Stab.mO 2 s13 hf hok ?_
 apply Stab.tq 3 _ hf hok
 · (
 intro fr1 w1 hh hd hk K Z
 have s78 := Stab.v 1 1 hd hk []
 have s79 := Stab.v 2 0 hd hk []
 clear hd
 go_simp
 try rw [if_pos (by omega)]
 exact Stab.k Z)
 apply Stab.tq 4 _ hf hok
 · (
 intro fr1 w1 hh hd hk K Z
 have s80 := Stab.v 3 0 hd hk []
 clear hd
 go_simp
 exact Stab.k Z)
 apply Stab.tq 5 _ hf hok
 · (
 intro fr1 w1 hh hd hk K Z
 have s81 := Stab.v 4 0 hd hk []
 clear hd
 replace y0 := cL hh.ext y0
 replace y1 := cL hh.ext y1
 replace hrs := hrs.later hh.ext
 replace hre1 := (hre1.below hh.ext).any
 replace x0 := cL hh.ext x0
 replace x1 := cL hh.ext x1
 replace x2 := cL hh.ext x2
 replace hru := (hru.below hh.ext).more (hh.ext).size
 replace hb0 := hb0.trans ((hh.ext).mono hb0.size)
 replace d0 := cL hh.ext d0
 replace d1 := cL hh.ext d1
 replace d2 := cL hh.ext d2
 go_simp
 exact Stab.k Z)
 refine Stab.todo_op (k := 6) (n := 157) (fun v _ => v = .tuple #[.int .u64 (valE e : Nat), .bool true]) hf.size hok.out rfl (fun _ _ _ _ h => h) ?_ ?_
 · (
 intro fr1 w1 hh hd hk K Z
 refine Stab.pl ?_
 have s77 := Stab.v 0 5 hd hk []
 have s82 := Stab.v 5 0 hd hk []
 clear hd
 replace y0 := cL hh.ext y0
 replace y1 := cL hh.ext y1
 replace hrs := hrs.later hh.ext
 replace hre1 := (hre1.below hh.ext).any
 replace x0 := cL hh.ext x0
 replace x1 := cL hh.ext x1
 replace x2 := cL hh.ext x2
 replace hru := (hru.below hh.ext).more (hh.ext).size
 replace hb0 := hb0.trans ((hh.ext).mono hb0.size)
 replace d0 := cL hh.ext d0
 replace d1 := cL hh.ext d1
 replace d2 := cL hh.ext d2
 go_simp
 go_at_call 10; refine (value14 w1 _ init hini ss hrs HOO.out HCL.out hpos (by omega) e.word (by omega)).mono ?_; rintro e w2 ⟨rfl, hb⟩
 rw [HVA.out, HVR.out]
 simp only [Option.isSome]
 exact Z.out _ rfl _ _ hb rfl)
 apply Stab.tq 7 _ hf hok
 · (
 intro fr1 w1 hh hd hk K Z
 obtain ⟨x83, s83, hp83⟩ := Stab.use (j := 6) (m := 0) hd hk rfl [] (by kernel_rfl) rfl rfl rfl
 have hv83 := hp83
 subst hv83
 clear hd
 go_simp
 exact Stab.k Z)
 apply Stab.tq 8 _ hf hok
 · (
 intro fr1 w1 hh hd hk K Z
 have s76 := Stab.v 7 0 hd hk []
 clear hd
 go_simp
 exact Stab.k Z)
 apply Stab.tq 9 _ hf hok
 · (
 intro fr1 w1 hh hd hk K Z
 have s76 := Stab.v 7 1 hd hk []
 clear hd
 go_simp
 exact Stab.k Z)
 refine Stab.mN 10 8 1 hf hok [] ?_
 refine Stab.mN 11 9 1 hf hok [] ?_
 refine Stab.tf hf hok fun fr1 w1 hh hg => ?_
 replace s3 := Stab.O hh s3
 replace s5 := Stab.O hh s5
 replace s11 := Stab.O hh s11
 replace s13 := Stab.O hh s13
 have s14 := Stab.f 10 1 hg
 have s15 := Stab.f 11 0 hg
 have hf1 := hh.fr hf
 have hx := hh.ext
 replace y0 := cL hx y0
 replace y1 := cL hx y1
 replace hrs := hrs.later hx
 replace hre1 := (hre1.below hx).any
 replace x0 := cL hx x0
 replace x1 := cL hx x1
 replace x2 := cL hx x2
 replace hru := (hru.below hx).more (hx).size
 replace hb0 := hb0.trans ((hx).mono hb0.size)
 replace d0 := cL hx d0
 replace d1 := cL hx d1
 replace d2 := cL hx d2
 clear hg hh hf hok s73
 have hf := hf1; clear hf1
 refine nx (hK15 _ _ ?_)
 have q3 : (((valE e : Nat) : Int) != ((valE e : Nat) : Int)) = false := by simp
 refine Fact.sq fun K16 hK16 => ?_
 refine rg ?_
 have b86 := hf.b 86
 have b87 := hf.b 87
 have b88 := hf.b 88
 have b89 := hf.b 89
 have b90 := hf.b 90
 have b91 := hf.b 91
 have b92 := hf.b 92
 have b93 := hf.b 93
 have b94 := hf.b 94
 have b95 := hf.b 95
 iterate 3 (refine fp fun K Z => ?_; go_simp; apply Z.out; clear Z K)
 refine og 2 88 false ?_ fun K Z => ?_
 · (
 simp (decide := true) only [Fact.G, reduceIte, hf.size])
 go_simp
 apply Z.out; clear Z K
 refine og 2 88 false ?_ fun K Z => ?_
 · (
 simp (decide := true) only [Fact.G, reduceIte, hf.size])
 go_simp
 apply Z.out; clear Z K
 refine og 2 88 false ?_ fun K Z => ?_
 · (
 simp (decide := true) only [Fact.G, reduceIte, hf.size])
 go_simp
 apply Z.out; clear Z K
 refine og 2 88 false ?_ fun K Z => ?_
 · (
 simp (decide := true) only [Fact.G, reduceIte, hf.size])
 go_simp
 try rw [if_pos (by omega)]
 apply Z.out; clear Z K
 refine og 2 88 false ?_ fun K Z => ?_
 · (
 simp (decide := true) only [Fact.G, reduceIte, hf.size])
 go_simp
 apply Z.out; clear Z K
 refine og 2 88 false ?_ fun K Z => ?_
 · (
 simp (decide := true) only [Fact.G, reduceIte, hf.size])
 go_simp
 go_at_call 11; refine (rvalue16 e hoe w1).mono ?_; rintro e w9 ⟨rfl, hb9⟩
 replace y0 := cL hb9 y0
 replace y1 := cL hb9 y1
 replace hrs := hrs.later hb9
 replace hre1 := (hre1.below hb9).any
 replace x0 := cL hb9 x0
 replace x1 := cL hb9 x1
 replace x2 := cL hb9 x2
 replace hru := (hru.below hb9).more (hb9).size
 replace hb0 := hb0.trans ((hb9).mono hb0.size)
 try dsimp only
 apply Z.out; clear Z K
 refine og 2 88 false ?_ fun K Z => ?_
 · (
 simp (decide := true) only [Fact.G, reduceIte, hf.size])
 go_simp
 apply Z.out; clear Z K
 refine fp fun K Z => ?_
 go_simp
 apply Z.out; clear Z K
 refine Fact.z hf fun fr1 hf1 hT => ?_
 have hKp : _ ∧ _ ∧ _ ∧ _ ∧ _ := ⟨hT 3, hT 5, hT 11, hT 13, hT 96⟩
 simp (decide := true) only [Fact.G, hf.size, reduceIte, s3, s5, s11, s13] at hKp
 replace hf := hf1; clear hT hf1 s3 s5 s11 s13 s14 s15 b86 b87 b88 b89 b90 b91 b92 b93 b94 b95
 obtain ⟨s3, s5, s11, s13, s96⟩ := hKp
 refine nx (hK16 _ _ ?_)
 refine Fact.cond_f s96 ?_
 clear q3
 refine wp_skip ?_
 refine Fact.block_normal ?_
 refine nx (hK14 _ _ ?_)
 refine rg ?_
 have b74 := hf.b 74
 have b75 := hf.b 75
 refine fp fun K Z => ?_
 go_simp
 apply Z.out; clear Z K
 refine fp fun K Z => ?_
 go_simp
 try simp (disch := omega) only [Fact.W]
 apply Z.out; clear Z K
 refine fp fun K Z => ?_
 go_simp
 apply Z.out; clear Z K
 refine Fact.z hf fun fr1 hf1 hT => ?_
 have hKp : _ ∧ _ ∧ _ ∧ _ := ⟨hT 3, hT 5, hT 11, hT 13⟩
 simp (decide := true) only [Fact.G, hf.size, reduceIte, s3, s5, s11] at hKp
 replace hf := hf1; clear hT hf1 s3 s5 s11 s13 s96 b74 b75
 obtain ⟨s3, s5, s11, s13⟩ := hKp
 refine Fact.then_normal ?_
 exact ⟨_, by have := HK.out; omega, i + 1, rfl, by omega, hf, s3, s5, s11, by rw [s13]; rfl, x0, x1, x2, y0, y1, hrs, hre1, hru, hb0⟩)
 · (
 clear hq HK
 have hokl := hokd1.1
 obtain ⟨Ee, hEe⟩ : ∃ x, d.ent = x := ⟨_, rfl⟩
 have hes : Ee.word.size ≤ 9 ∧ 0 < Ee.word.size := by rw [← hEe]; exact ent_size d
 have HEE := Lib.hid hEe; clear hEe
 obtain ⟨ov, hov⟩ : ∃ x, valW ss (ss.length - 1) (wl Ee.word) = x := ⟨_, rfl⟩
 have hvv := HVALS.out Ee.word hes.2
 rw [hov] at hvv
 have hsome : (findE own Ee.word).isSome = ov.isSome := by rw [← Option.isSome_map (f := valE), ← hvv, Option.isSome_map]
 have HOV := Lib.hid hov; have HSM := Lib.hid hsome; clear hov hvv hsome
 refine wp_exit ?_
 refine Fact.then_exit ?_
 refine Fact.then_exit ?_
 refine Fact.block_exit ?_
 refine nx (hK10 _ _ ?_)
 refine Fact.sq fun K17 hK17 => ?_
 refine Stab.tb 157 fun hok => ?_
 apply Stab.tq 0 _ hf hok
 · (
 intro fr1 w1 hh hd hk K Z
 have s11 := Stab.O hh s11
 clear hd
 replace y0 := cL hh.ext y0
 replace y1 := cL hh.ext y1
 replace hrs := hrs.later hh.ext
 replace hre1 := (hre1.below hh.ext).any
 replace x0 := cL hh.ext x0
 replace x1 := cL hh.ext x1
 replace x2 := cL hh.ext x2
 replace hru := (hru.below hh.ext).more (hh.ext).size
 replace hb0 := hb0.trans ((hh.ext).mono hb0.size)
 go_simp
 exact Stab.k Z)
 apply Stab.tq 1 _ hf hok
 · (
 intro fr1 w1 hh hd hk K Z
 have s3 := Stab.O hh s3
 clear hd
 replace y0 := cL hh.ext y0
 replace y1 := cL hh.ext y1
 replace hrs := hrs.later hh.ext
 replace hre1 := (hre1.below hh.ext).any
 replace x0 := cL hh.ext x0
 replace x1 := cL hh.ext x1
 replace x2 := cL hh.ext x2
 replace hru := (hru.below hh.ext).more (hh.ext).size
 replace hb0 := hb0.trans ((hh.ext).mono hb0.size)
 go_simp
 exact Stab.k Z)
 refine Stab.todo_op (k := 2) (n := 157) (fun v _ => v = eval Ee) hf.size hok.out rfl (fun _ _ _ _ h => h) ?_ ?_
 · (
 intro fr1 w1 hh hd hk K Z
 refine Stab.pl ?_
 have s99 := Stab.v 1 0 hd hk []
 clear hd
 replace y0 := cL hh.ext y0
 replace y1 := cL hh.ext y1
 replace hrs := hrs.later hh.ext
 replace hre1 := (hre1.below hh.ext).any
 replace x0 := cL hh.ext x0
 replace x1 := cL hh.ext x1
 replace x2 := cL hh.ext x2
 replace hru := (hru.below hh.ext).more (hh.ext).size
 replace hb0 := hb0.trans ((hh.ext).mono hb0.size)
 go_simp
 go_at_call 12; refine (dentry w1 d lv hru hokl).mono ?_; rintro e w2 ⟨rfl, hb⟩
 rw [HEE.out]
 exact Z.out _ rfl _ _ hb rfl)
 apply Stab.tq 3 _ hf hok
 · (
 intro fr1 w1 hh hd hk K Z
 obtain ⟨x100, s100, hp100⟩ := Stab.use (j := 2) (m := 0) hd hk rfl [] (by kernel_rfl) rfl rfl rfl
 have hv100 := hp100
 subst hv100
 clear hd
 go_simp
 exact Stab.k Z)
 refine Stab.todo_op (k := 4) (n := 157) (fun v _ => v = .tuple #[.int .u64 (valR init ov : Nat), .bool ov.isSome]) hf.size hok.out rfl (fun _ _ _ _ h => h) ?_ ?_
 · (
 intro fr1 w1 hh hd hk K Z
 refine Stab.pl ?_
 have s98 := Stab.v 0 3 hd hk []
 have s101 := Stab.v 3 0 hd hk []
 clear hd
 replace y0 := cL hh.ext y0
 replace y1 := cL hh.ext y1
 replace hrs := hrs.later hh.ext
 replace hre1 := (hre1.below hh.ext).any
 replace x0 := cL hh.ext x0
 replace x1 := cL hh.ext x1
 replace x2 := cL hh.ext x2
 replace hru := (hru.below hh.ext).more (hh.ext).size
 replace hb0 := hb0.trans ((hh.ext).mono hb0.size)
 go_simp
 go_at_call 10; refine (value14 w1 _ init hini ss hrs HOO.out HCL.out hpos (by omega) Ee.word (by omega)).mono ?_; rintro e w2 ⟨rfl, hb⟩
 rw [HOV.out]
 exact Z.out _ rfl _ _ hb rfl)
 apply Stab.tq 5 _ hf hok
 · (
 intro fr1 w1 hh hd hk K Z
 obtain ⟨x102, s102, hp102⟩ := Stab.use (j := 4) (m := 0) hd hk rfl [] (by kernel_rfl) rfl rfl rfl
 have hv102 := hp102
 subst hv102
 clear hd
 go_simp
 exact Stab.k Z)
 apply Stab.tq 6 _ hf hok
 · (
 intro fr1 w1 hh hd hk K Z
 have s97 := Stab.v 5 0 hd hk []
 clear hd
 go_simp
 exact Stab.k Z)
 apply Stab.tq 7 _ hf hok
 · (
 intro fr1 w1 hh hd hk K Z
 have s97 := Stab.v 5 1 hd hk []
 clear hd
 go_simp
 exact Stab.k Z)
 refine Stab.mN 8 6 1 hf hok [] ?_
 refine Stab.mN 9 7 1 hf hok [] ?_
 refine Stab.tf hf hok fun fr1 w1 hh hg => ?_
 replace s3 := Stab.O hh s3
 replace s5 := Stab.O hh s5
 have s17 := Stab.f 9 0 hg
 have hf1 := hh.fr hf
 have hx := hh.ext
 replace y0 := cL hx y0
 replace y1 := cL hx y1
 replace hrs := hrs.later hx
 replace hre1 := (hre1.below hx).any
 replace x0 := cL hx x0
 replace x1 := cL hx x1
 replace x2 := cL hx x2
 replace hru := (hru.below hx).more (hx).size
 replace hb0 := hb0.trans ((hx).mono hb0.size)
 clear hg hh hf hok s11 s13 s73
 have hf := hf1; clear hf1
 refine nx (hK17 _ _ ?_)
 refine Fact.sq fun K18 hK18 => ?_
 refine rg ?_
 have b106 := hf.b 106
 have b107 := hf.b 107
 have b108 := hf.b 108
 have b109 := hf.b 109
 have b110 := hf.b 110
 have b105 := hf.b 105
 have b111 := hf.b 111
 have b112 := hf.b 112
 have b18 := hf.b 18
 iterate 2 (refine fp fun K Z => ?_; go_simp; apply Z.out; clear Z K)
 refine fp fun K Z => ?_
 go_simp
 go_at_call 12; refine (dentry w1 d lv hru hokl).mono ?_; rintro e u1 ⟨rfl, hbu⟩
 rw [HEE.out]
 simp only [eval]
 replace y0 := cL hbu y0
 replace y1 := cL hbu y1
 replace hrs := hrs.later hbu
 replace hre1 := (hre1.below hbu).any
 replace x0 := cL hbu x0
 replace x1 := cL hbu x1
 replace x2 := cL hbu x2
 replace hru := (hru.below hbu).more (hbu).size
 replace hb0 := hb0.trans ((hbu).mono hb0.size)
 try dsimp only
 apply Z.out; clear Z K
 refine fp fun K Z => ?_
 go_simp
 apply Z.out; clear Z K
 refine fp fun K Z => ?_
 go_simp
 go_at_call 13; refine (find15 u1 own _ _ (Nat.le_refl _) hre1 (by omega) Ee.word).mono ?_; rintro e u2 ⟨rfl, hbv⟩
 rw [HSM.out]
 obtain ⟨Fe, hFe⟩ : ∃ x, (findE own Ee.word).getD ⟨⟨#[]⟩, 0, false⟩ = x := ⟨_, rfl⟩
 rw [hFe]
 clear hFe
 simp only [eval]
 replace y0 := cL hbv y0
 replace y1 := cL hbv y1
 replace hrs := hrs.later hbv
 replace hre1 := (hre1.below hbv).any
 replace x0 := cL hbv x0
 replace x1 := cL hbv x1
 replace x2 := cL hbv x2
 replace hru := (hru.below hbv).more (hbv).size
 replace hb0 := hb0.trans ((hbv).mono hb0.size)
 try dsimp only
 apply Z.out; clear Z K
 iterate 6 (refine fp fun K Z => ?_; go_simp; apply Z.out; clear Z K)
 refine Fact.z hf fun fr1 hf1 hT => ?_
 have hKp : _ ∧ _ := ⟨hT 17, hT 19⟩
 simp (decide := true) only [Fact.G, hf.size, reduceIte, s17] at hKp
 replace hf := hf1; clear hT hf1 s3 s5 s17 b106 b107 b108 b109 b110 b105 b111 b112 b18
 obtain ⟨s17, s19⟩ := hKp
 obtain ⟨U2, hU2⟩ : ∃ W0, u2.alloc (.cells #[.string Fe.word, .int .u32 Fe.weight, .bool Fe.gone] 47) = W0 := ⟨_, rfl⟩
 try rw [hU2]
 obtain ⟨hbx, -, -, -, -, -⟩ := box3 hU2
 clear hU2
 replace y0 := cL hbx y0
 replace y1 := cL hbx y1
 replace hrs := hrs.later hbx
 replace hre1 := (hre1.below hbx).any
 replace x0 := cL hbx x0
 replace x1 := cL hbx x1
 replace x2 := cL hbx x2
 replace hru := (hru.below hbx).more (hbx).size
 replace hb0 := hb0.trans ((hbx).mono hb0.size)
 clear x0 x1 x2 y0 y1 hrs hre1 hru hbx
 have hB0 : U2.heap.size ≤ U2.heap.size := Nat.le_refl _
 have hbt := Below.refl U2.heap.size U2
 refine nx (hK18 _ _ ?_)
 refine Fact.sq fun K19 hK19 => ?_
 refine rg ?_
 refine fp fun K Z => ?_
 go_simp
 apply Z.out; clear Z K
 refine Fact.z hf fun fr1 hf1 hT => ?_
 have hKp : _ ∧ _ ∧ _ := ⟨hT 17, hT 19, hT 20⟩
 simp (decide := true) only [Fact.G, hf.size, reduceIte, s17, s19] at hKp
 replace hf := hf1; clear hT hf1 s17 s19
 obtain ⟨s17, s19, s20⟩ := hKp
 refine nx (hK19 _ _ ?_)
 refine Fact.sq fun K20 hK20 => ?_
 refine Fact.sq fun K21 hK21 => ?_
 refine rg ?_
 refine fp fun K Z => ?_
 go_simp
 apply Z.out; clear Z K
 refine Fact.z hf fun fr1 hf1 hT => ?_
 have hKp : _ ∧ _ ∧ _ ∧ _ := ⟨hT 17, hT 19, hT 20, hT 21⟩
 simp (decide := true) only [Fact.G, hf.size, reduceIte, s17, s19, s20] at hKp
 replace hf := hf1; clear hT hf1 s17 s19 s20
 obtain ⟨s17, s19, s20, s21⟩ := hKp
 refine nx (hK21 _ _ ?_)
 refine wp_block ?_
 refine wp_loop_ghost (fun gk fr wr => ∃ (k : Nat) (V : Value), gk = 10 - k ∧ k ≤ 10 ∧ Fact.Fr 157 fr ∧ fr.tmps[17]? = some (.bool ov.isSome) ∧ fr.tmps[19]? = some (.bool ov.isSome) ∧ fr.tmps[20]? = some V ∧ fr.tmps[21]? = some (.int .u8 ((97 + k : Nat) : Int)) ∧ OE wr U2.heap.size V (manyE.take (10 * k)) ∧ Below U2.heap.size U2 wr) (10) ?_ ?_
 · (
 exact ⟨0, _, rfl, Nat.zero_le _, hf, s17, s19, s20, s21, OE.nil_ _ _, hbt⟩)
 · (
 clear hf s17 s19 s20 s21
 clear hbt
 rintro gk fr wr ⟨k, V, hk, hk10, hf, s17, s19, s20, s21, how, hbt⟩
 have HK := Lib.hid hk; clear hk
 refine Fact.sq fun K22 hK22 => ?_
 refine Fact.sq fun K23 hK23 => ?_
 refine rg ?_
 have b113 := hf.b 113
 iterate 2 (refine fp fun K Z => ?_; go_simp; apply Z.out; clear Z K)
 refine Fact.z hf fun fr1 hf1 hT => ?_
 have hKp : _ ∧ _ ∧ _ ∧ _ ∧ _ := ⟨hT 17, hT 19, hT 20, hT 21, hT 114⟩
 simp (decide := true) only [Fact.G, hf.size, reduceIte, s17, s19, s20, s21] at hKp
 replace hf := hf1; clear hT hf1 s17 s19 s20 s21 b113
 obtain ⟨s17, s19, s20, s21, s114⟩ := hKp
 refine nx (hK23 _ _ ?_)
 refine Fact.cond_s s114 (fun hq => ?_) (fun hq => ?_)
 · (
 have hlt : k < 10 := by have h9 := of_decide_eq_true hq; omega
 clear hq
 refine wp_skip ?_
 refine nx (hK22 _ _ ?_)
 refine Fact.sq fun K24 hK24 => ?_
 refine wp_block ?_
 refine Fact.sq fun K25 hK25 => ?_
 refine rg ?_
 refine fp fun K Z => ?_
 go_simp
 apply Z.out; clear Z K
 refine Fact.z hf fun fr1 hf1 hT => ?_
 have hKp : _ ∧ _ ∧ _ ∧ _ ∧ _ := ⟨hT 17, hT 19, hT 20, hT 21, hT 22⟩
 simp (decide := true) only [Fact.G, hf.size, reduceIte, s17, s19, s20, s21] at hKp
 replace hf := hf1; clear hT hf1 s17 s19 s20 s21 s114
 obtain ⟨s17, s19, s20, s21, s22⟩ := hKp
 refine nx (hK25 _ _ ?_)
 refine wp_block ?_
 refine wp_loop_ghost (fun gk2 fr w2 => ∃ (j : Nat) (V : Value), gk2 = 10 - j ∧ j ≤ 10 ∧ Fact.Fr 157 fr ∧ fr.tmps[17]? = some (.bool ov.isSome) ∧ fr.tmps[19]? = some (.bool ov.isSome) ∧ fr.tmps[20]? = some V ∧ fr.tmps[21]? = some (.int .u8 ((97 + k : Nat) : Int)) ∧ fr.tmps[22]? = some (.int .u8 ((97 + j : Nat) : Int)) ∧ OE w2 U2.heap.size V (manyE.take (10 * k + j)) ∧ Below U2.heap.size U2 w2) (10) ?_ ?_
 · (
 exact ⟨0, _, rfl, Nat.zero_le _, hf, s17, s19, s20, s21, s22, how, hbt⟩)
 · (
 clear hf s17 s19 s20 s21 s22
 clear how hbt
 rintro gk2 fr w2 ⟨j, V2, hk2, hj10, hf, s17, s19, s20, s21, s22, how, hbt⟩
 have HK2 := Lib.hid hk2; clear hk2
 refine Fact.sq fun K26 hK26 => ?_
 refine Fact.sq fun K27 hK27 => ?_
 refine rg ?_
 have b117 := hf.b 117
 iterate 2 (refine fp fun K Z => ?_; go_simp; apply Z.out; clear Z K)
 refine Fact.z hf fun fr1 hf1 hT => ?_
 have hKp : _ ∧ _ ∧ _ ∧ _ ∧ _ ∧ _ := ⟨hT 17, hT 19, hT 20, hT 21, hT 22, hT 118⟩
 simp (decide := true) only [Fact.G, hf.size, reduceIte, s17, s19, s20, s21, s22] at hKp
 replace hf := hf1; clear hT hf1 s17 s19 s20 s21 s22 b117
 obtain ⟨s17, s19, s20, s21, s22, s118⟩ := hKp
 refine nx (hK27 _ _ ?_)
 refine Fact.cond_s s118 (fun hq2 => ?_) (fun hq2 => ?_)
 · (
 have hltj : j < 10 := by have h9 := of_decide_eq_true hq2; omega
 clear hq2
 have hst := many_take hlt hltj
 obtain ⟨xs, hxs⟩ : ∃ x, manyE.take (10 * k + j) = x := ⟨_, rfl⟩
 rw [hxs] at how hst
 have hxl : xs.length = 10 * k + j := by rw [← hxs, List.length_take, many_length]; omega
 have HST := Lib.hid hst; clear hst hxs
 obtain ⟨Av, cv, hV, hcv⟩ := OE.form (es := xs) how
 subst hV
 have HXL := Lib.hid hxl; clear hxl
 obtain ⟨xk, hxk⟩ : ∃ x : Nat, 97 + k = x := ⟨_, rfl⟩
 obtain ⟨xj, hxj⟩ : ∃ x : Nat, 97 + j = x := ⟨_, rfl⟩
 rw [hxk] at s21
 rw [hxj] at s22
 have HXK := Lib.hid hxk; have HXJ := Lib.hid hxj; clear hxk hxj
 refine wp_skip ?_
 refine nx (hK26 _ _ ?_)
 refine Fact.sq fun K28 hK28 => ?_
 refine wp_block ?_
 refine rg ?_
 have b121 := hf.b 121
 have b122 := hf.b 122
 have b123 := hf.b 123
 have b124 := hf.b 124
 have b125 := hf.b 125
 have b126 := hf.b 126
 have b127 := hf.b 127
 have b128 := hf.b 128
 iterate 4 (refine fp fun K Z => ?_; go_simp; apply Z.out; clear Z K)
 have hcv := conv_three w2 xk xj
 iterate 2 (refine fp fun K Z => ?_; go_simp; apply Z.out; clear Z K)
 obtain ⟨X3, hX3⟩ : ∃ x, w2.alloc (.cells #[.int .u8 xk, .int .u8 xj, .int .u8 122] 5) = x := ⟨_, rfl⟩
 have hb3 : Below w2.heap.size w2 X3 := by rw [← hX3]; exact (Below.refl _ _).alloc (Nat.le_refl _) _
 rw [hX3] at hcv
 try rw [hX3]
 clear hX3 hcv
 have how3 := own_later how hb3
 have hbt3 := hbt.trans (hb3.mono hbt.size)
 refine fp fun K Z => ?_
 go_simp
 apply Z.out; clear Z K
 refine Fact.reL (n := 157) (by simp only [Fact.G, hf.size]) hf.defers (fun fr1 hf1 hT => ?_)
 have hKp : _ ∧ _ ∧ _ ∧ _ ∧ _ ∧ _ ∧ _ := ⟨hT 17, hT 19, hT 20, hT 21, hT 22, hT 121, hT 127⟩
 simp (decide := true) only [Fact.G, hf.size, reduceIte, s17, s19, s20, s21, s22] at hKp
 replace hf := hf1; clear hT hf1 s17 s19 s20 s21 s22 s118 b121 b122 b123 b124 b125 b126 b127 b128
 obtain ⟨s17, s19, s20, s21, s22, s121, s127⟩ := hKp
 have b128 := hf.b 128
 refine ⟨?_⟩
 refine wpList_plain rfl fun K5 hK5 => ?_
 refine wp_app _ _ 28 rfl 47 _ 3 24 Tryz.underlying28 info_ent rfl (by decide) (by decide) U2.heap.size (.slice Av xs.length cv) xs.length _ (Fact.eval_tmp s121) (how3.alloc _) X3.heap.size (Ent.cells ⟨bl [xk, xj, 122], 0, false⟩) (Fact.eval_tmp s127) rfl (lit_new X3 _ _) (ent_one ⟨bl [xk, xj, 122], 0, false⟩) (by have := HXL.out; omega) (by have := hbt3.size; simp; omega) (fun v5 w5 hr5 hg5 hat5 => hK5 _ _ ?_)
 refine Fact.L.out ?_
 refine fp fun K Z => ?_
 go_simp
 apply Z.out; clear Z K
 refine Fact.z hf fun fr1 hf1 hT => ?_
 have hKp : _ ∧ _ ∧ _ ∧ _ ∧ _ := ⟨hT 17, hT 19, hT 20, hT 21, hT 22⟩
 simp (decide := true) only [Fact.G, hf.size, reduceIte, s17, s19, s21, s22] at hKp
 replace hf := hf1; clear hT hf1 s17 s19 s20 s21 s22 s121 s127 b128
 obtain ⟨s17, s19, s20, s21, s22⟩ := hKp
 have hbt5 := (hbt3.alloc hbt3.size _).grown hg5 (by have := hbt3.size; simp; omega) (fun kk hkk => (how3.lt kk hkk).1)
 have hmw : manyW k j = ⟨bl [xk, xj, 122], 0, false⟩ := by unfold manyW; rw [HXK.out, HXJ.out]
 have how5 : OE w5 U2.heap.size v5 (xs ++ [manyW k j]) := by rw [hmw]; unfold OE; rw [ecs_append, List.length_append]; exact hr5
 clear hmw
 refine Fact.block_normal ?_
 refine nx (hK28 _ _ ?_)
 refine rg ?_
 have b119 := hf.b 119
 have b120 := hf.b 120
 refine fp fun K Z => ?_
 go_simp
 apply Z.out; clear Z K
 refine fp fun K Z => ?_
 go_simp
 try simp (disch := omega) only [Fact.W]
 apply Z.out; clear Z K
 refine fp fun K Z => ?_
 go_simp
 apply Z.out; clear Z K
 refine Fact.z hf fun fr1 hf1 hT => ?_
 have hKp : _ ∧ _ ∧ _ ∧ _ ∧ _ := ⟨hT 17, hT 19, hT 20, hT 21, hT 22⟩
 simp (decide := true) only [Fact.G, hf.size, reduceIte, s17, s19, s20, s21] at hKp
 replace hf := hf1; clear hT hf1 s17 s19 s20 s21 s22 b119 b120
 obtain ⟨s17, s19, s20, s21, s22⟩ := hKp
 refine Fact.then_normal ?_
 exact ⟨_, by have := HK2.out; omega, j + 1, v5, rfl, by omega, hf, s17, s19, s20, by rw [s21, ← HXK.out], by rw [s22, ← HXJ.out, wrap_next (by omega)], by rw [show 10 * k + (j + 1) = 10 * k + j + 1 from rfl, HST.out]; exact how5, hbt5⟩)
 · (
 have hje : j = 10 := by have h9 := of_decide_eq_false hq2; omega
 subst hje
 clear hq2
 refine wp_exit ?_
 refine Fact.then_exit ?_
 refine Fact.then_exit ?_
 refine Fact.block_exit ?_
 refine Fact.block_normal ?_
 refine nx (hK24 _ _ ?_)
 refine rg ?_
 have b115 := hf.b 115
 have b116 := hf.b 116
 refine fp fun K Z => ?_
 go_simp
 apply Z.out; clear Z K
 refine fp fun K Z => ?_
 go_simp
 try simp (disch := omega) only [Fact.W]
 apply Z.out; clear Z K
 refine fp fun K Z => ?_
 go_simp
 apply Z.out; clear Z K
 refine Fact.z hf fun fr1 hf1 hT => ?_
 have hKp : _ ∧ _ ∧ _ ∧ _ := ⟨hT 17, hT 19, hT 20, hT 21⟩
 simp (decide := true) only [Fact.G, hf.size, reduceIte, s17, s19, s20] at hKp
 replace hf := hf1; clear hT hf1 s17 s19 s20 s21 s22 s118 b115 b116
 obtain ⟨s17, s19, s20, s21⟩ := hKp
 refine Fact.then_normal ?_
 exact ⟨_, by have := HK.out; omega, k + 1, _, rfl, by omega, hf, s17, s19, s20, by rw [s21, show ((97 : Int) + (k : Int) + 1) = ((97 + (k + 1) : Nat) : Int) by omega], by rw [show 10 * (k + 1) = 10 * k + 10 by omega]; exact how, hbt⟩)))
 · (
 have hke : k = 10 := by have h9 := of_decide_eq_false hq; omega
 subst hke
 clear hq
 have hal : manyE.take (10 * 10) = manyE := List.take_of_length_le (by rw [many_length]; decide)
 rw [hal] at how
 have hre := OE.re (es := manyE) how
 clear hal
 have hmb := many_build; have hml := many_length
 obtain ⟨ME, hME⟩ : ∃ x, manyE = x := ⟨_, rfl⟩
 have hmo := many_ok
 rw [hME] at hmb hml hmo how hre
 have HMB := Lib.hid hmb; have HMO := Lib.hid hmo; have HML := Lib.hid hml; clear hmb hmo hME hml
 obtain ⟨Av, cv, hV, hcv⟩ := OE.form (es := ME) how
 subst hV
 skip
 have hchk : chkN ME = 0 := by have h := HMB.out; unfold buildF at h; split at h; assumption; cases h
 have HCK := Lib.hid hchk; clear hchk
 refine wp_exit ?_
 refine Fact.then_exit ?_
 refine Fact.then_exit ?_
 refine Fact.block_exit ?_
 refine nx (hK20 _ _ ?_)
 refine Fact.sq fun K29 hK29 => ?_
 refine rg ?_
 have b130 := hf.b 130
 have b131 := hf.b 131
 have b129 := hf.b 129
 have b132 := hf.b 132
 have b133 := hf.b 133
 have b23 := hf.b 23
 refine fp fun K Z => ?_
 go_simp
 apply Z.out; clear Z K
 refine fp fun K Z => ?_
 go_simp
 go_at_call 6; refine (build8 wr ME _ _ (Nat.le_refl _) hre (by have := HML.out; omega) HMO.out).mono ?_; rintro e v1 ⟨sv2, rfl, hr2, hg2, hl2, hbv1⟩
 rw [HMB.out] at hr2 hg2 ⊢
 obtain ⟨A2, c2, rfl, _⟩ := hr2.form
 replace hr2 : RS v1 (.slice A2 4 c2) manyS := hr2
 try dsimp only
 apply Z.out; clear Z K
 iterate 6 (refine fp fun K Z => ?_; go_simp; apply Z.out; clear Z K)
 refine Fact.z hf fun fr1 hf1 hT => ?_
 have hKp : _ ∧ _ ∧ _ ∧ _ := ⟨hT 17, hT 19, hT 20, hT 23⟩
 simp (decide := true) only [Fact.G, hf.size, reduceIte, s17, s19, s20] at hKp
 replace hf := hf1; clear hT hf1 s17 s19 s20 s21 s114 b130 b131 b129 b132 b133 b23
 obtain ⟨s17, s19, s20, s23⟩ := hKp
 obtain ⟨V1, hV1⟩ : ∃ W0, v1.alloc (.cells #[.slice A2 manyS.length c2, .int .u64 1] 33) = W0 := ⟨_, rfl⟩
 try rw [hV1]
 obtain ⟨hbv2, z0, z1, -, -⟩ := box2 hV1
 clear hV1
 replace z0 : V1.cell? ⟨v1.heap.size, 0, none⟩ = some (.slice A2 4 c2) := z0
 replace z1 : V1.cell? ⟨v1.heap.size, 1, none⟩ = some (.int .u64 1) := z1
 replace hr2 := hr2.later hbv2
 replace hbt := hbt.trans ((hbv1.trans (hbv2.mono hbv1.size)).mono hbt.size)
 have hoo2 : ∀ s ∈ manyS, okS s := fun s hs => (hg2 s hs).ok
 have hfw2 : ∀ s ∈ manyS, s.arcs.length ≤ 1000 := fun s hs => by have := (hg2 s hs).few; omega
 have HOO2 := Lib.hid hoo2; have HFW2 := Lib.hid hfw2; clear hoo2 hfw2 hg2
 have hms4 : manyS.length = 4 := rfl
 refine nx (hK29 _ _ ?_)
 refine Fact.sq fun K30 hK30 => ?_
 refine rg ?_
 have b135 := hf.b 135
 have b136 := hf.b 136
 have b134 := hf.b 134
 have b137 := hf.b 137
 have b138 := hf.b 138
 refine fp fun K Z => ?_
 go_simp
 apply Z.out; clear Z K
 refine fp fun K Z => ?_
 go_simp
 go_at_call 14; refine ((show Calls Tryz.prog 14 #[.agg #[.slice A2 4 c2, .int .u64 1]] V1 _ from size47 V1 _ 1 manyS hr2 HOO2.out (by omega) HFW2.out)).mono ?_; rintro e v2 ⟨rfl, hbv3⟩
 rw [many_arcs, hms4]
 replace z0 := cL hbv3 z0; replace z1 := cL hbv3 z1; replace hr2 := hr2.later hbv3; replace hbt := hbt.trans (hbv3.mono hbt.size)
 try dsimp only
 apply Z.out; clear Z K
 iterate 5 (refine fp fun K Z => ?_; go_simp; apply Z.out; clear Z K)
 refine Fact.z hf fun fr1 hf1 hT => ?_
 have hKp : _ ∧ _ ∧ _ ∧ _ ∧ _ ∧ _ := ⟨hT 17, hT 19, hT 20, hT 23, hT 25, hT 26⟩
 simp (decide := true) only [Fact.G, hf.size, reduceIte, s17, s19, s20, s23] at hKp
 replace hf := hf1; clear hT hf1 s17 s19 s20 s23 b135 b136 b134 b137 b138
 obtain ⟨s17, s19, s20, s23, s25, s26⟩ := hKp
 refine nx (hK30 _ _ ?_)
 have q1 : (ov.isSome == ov.isSome) = true := by simp
 refine Fact.sq fun K31 hK31 => ?_
 refine rg ?_
 have b139 := hf.b 139
 have b140 := hf.b 140
 have b141 := hf.b 141
 have b142 := hf.b 142
 have b143 := hf.b 143
 have b144 := hf.b 144
 have b145 := hf.b 145
 have b146 := hf.b 146
 have b147 := hf.b 147
 have b148 := hf.b 148
 have b149 := hf.b 149
 have b150 := hf.b 150
 have b151 := hf.b 151
 have b152 := hf.b 152
 have b153 := hf.b 153
 have b154 := hf.b 154
 have b155 := hf.b 155
 have b156 := hf.b 156
 iterate 4 (refine fp fun K Z => ?_; go_simp; apply Z.out; clear Z K)
 refine og 3 142 true ?_ fun K Z => ?_
 · (
 simp (decide := true) only [Fact.G, reduceIte, hf.size, q1])
 go_simp
 apply Z.out; clear Z K
 refine og 3 142 true ?_ fun K Z => ?_
 · (
 simp (decide := true) only [Fact.G, reduceIte, hf.size, q1])
 go_simp
 apply Z.out; clear Z K
 iterate 2 (refine fp fun K Z => ?_; go_simp; apply Z.out; clear Z K)
 refine og 7 146 true ?_ fun K Z => ?_
 · (
 simp (decide := true) only [Fact.G, reduceIte, hf.size, q1])
 go_simp
 apply Z.out; clear Z K
 refine og 7 146 true ?_ fun K Z => ?_
 · (
 simp (decide := true) only [Fact.G, reduceIte, hf.size, q1])
 go_simp
 apply Z.out; clear Z K
 iterate 2 (refine fp fun K Z => ?_; go_simp; apply Z.out; clear Z K)
 refine og 11 150 true ?_ fun K Z => ?_
 · (
 simp (decide := true) only [Fact.G, reduceIte, hf.size, q1])
 go_simp
 apply Z.out; clear Z K
 refine og 11 150 true ?_ fun K Z => ?_
 · (
 simp (decide := true) only [Fact.G, reduceIte, hf.size, q1])
 go_simp
 rw [HML.out]
 apply Z.out; clear Z K
 refine og 11 150 true ?_ fun K Z => ?_
 · (
 simp (decide := true) only [Fact.G, reduceIte, hf.size, q1])
 go_simp
 apply Z.out; clear Z K
 refine og 11 150 true ?_ fun K Z => ?_
 · (
 simp (decide := true) only [Fact.G, reduceIte, hf.size, q1])
 go_simp
 go_at_call 15; refine ((show Calls Tryz.prog 15 #[.int .i64 100, .agg #[.slice A2 4 c2, .int .u64 1]] v2 _ from size21 v2 100 _ 1 manyS hr2 HOO2.out (by omega) HFW2.out (by omega))).mono ?_; rintro e v3 ⟨rfl, hbv4⟩
 rw [many_size]
 replace hbt := hbt.trans (hbv4.mono hbt.size)
 try dsimp only
 apply Z.out; clear Z K
 refine og 11 150 true ?_ fun K Z => ?_
 · (
 simp (decide := true) only [Fact.G, reduceIte, hf.size, q1])
 go_simp
 apply Z.out; clear Z K
 iterate 2 (refine fp fun K Z => ?_; go_simp; apply Z.out; clear Z K)
 refine Fact.z hf fun fr1 hf1 hT => ?_
 have hKp := hT 4
 simp (decide := true) only [Fact.G, hf.size, reduceIte] at hKp
 replace hf := hf1; clear hT hf1 s17 s19 s20 s23 s25 s26 b139 b140 b141 b142 b143 b144 b145 b146 b147 b148 b149 b150 b151 b152 b153 b154 b155 b156
 have s4 := hKp; clear hKp
 refine nx (hK31 _ _ ?_)
 refine wp_ret ?_
 exact Fact.ret1 rfl hf s4 ⟨rfl, hb0.trans (hbt.mono hb0.size)⟩))))
end Dw
end Go.Proofs.YtdkbgbdgmihlmaaGreatDoor
