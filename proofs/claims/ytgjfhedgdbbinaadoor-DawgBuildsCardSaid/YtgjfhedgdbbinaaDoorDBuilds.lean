/- Dawg: DawgBuilds, walked. -/
import Derived.Test.YtgjfhedgdbbinaaDoorDTurn
import Derived.Test.YtgjfhedgdbbinaaDoorDWorks
import Derived.Test.YtgjfhedgdbbinaaDoorR5List
import Derived.Test.YtgjfhedgdbbinaaDoorDSame
import Derived.Test.YtgjfhedgdbbinaaDoorTools
namespace Go.Proofs.YtgjfhedgdbbinaaDoor
open Go.RowKit
set_option linter.unusedSimpArgs false
set_option linter.unusedVariables false
set_option linter.unnecessarySimpa false
namespace Dw

theorem RS.form3 {w : World} {sv : Value} {ss : List State} (h : RS w sv ss) : ∃ A n c, sv = .slice A n c := by
  obtain ⟨A, c, h1, _⟩ := h.form
  exact ⟨A, _, c, h1⟩
def PFst (N M : Nat) : Stab.Pr := fun v w => ∃ (sv : Value) (i : Nat) (ss : List State), v = .agg #[sv, .int .u64 i] ∧ i < 18446744073709551616 ∧ RS w sv ss ∧ ss.length ≤ N ∧ ∀ s ∈ ss, okS s ∧ s.arcs.length ≤ M
theorem PFst.stable (N M : Nat) : Stab.Stable (PFst N M) := fun v w w' hb ⟨sv, i, ss, h1, h2, h3, h4⟩ => ⟨sv, i, ss, h1, h2, h3.later hb, h4⟩
theorem PFst.form {N M : Nat} {v : Value} {i : Nat} {w : World} (h : PFst N M (.agg #[v, .int .u64 i]) w) : ∃ A n c, v = .slice A n c := by
  obtain ⟨sv, i2, ss, h1, _, h3, _⟩ := h
  obtain ⟨A, n, c, h4⟩ := h3.form3
  injection h1 with h1
  injection h1 with h1
  injection h1 with h1 _
  exact ⟨A, n, c, h1.trans h4⟩
def PArr : Stab.Pr := fun v w => ∃ (a b c d : Value) (i j k l : Nat), v = .agg #[a, .int .u64 i, b, .int .u64 j, c, .int .u64 k, d, .int .u64 l] ∧ PFst 10001 257 (.agg #[a, .int .u64 i]) w ∧ PFst 10001 257 (.agg #[b, .int .u64 j]) w ∧ PFst 10001 257 (.agg #[c, .int .u64 k]) w ∧ PFst 10001 257 (.agg #[d, .int .u64 l]) w
theorem PArr.stable : Stab.Stable PArr := fun v w w' hb ⟨a, b, c, d, i, j, k, l, h, h1, h2, h3, h4⟩ => ⟨a, b, c, d, i, j, k, l, h, PFst.stable _ _ _ _ _ hb h1, PFst.stable _ _ _ _ _ hb h2, PFst.stable _ _ _ _ _ hb h3, PFst.stable _ _ _ _ _ hb h4⟩
theorem few_ok {ss : List State} (h : ∀ s ∈ ss, s.out < 18446744073709551616 ∧ ∀ a ∈ s.arcs, okA a) : ∀ s ∈ (ss.take 12).map cut6, okS s ∧ s.arcs.length ≤ 6 := by
  intro s hs
  obtain ⟨x, hx, rfl⟩ := List.mem_map.1 hs
  have h1 := h x (List.mem_of_mem_take hx)
  have h2 : (cut6 x).arcs.length ≤ 6 := by simp [cut6]; omega
  exact ⟨⟨h1.1, by omega, fun a ha => h1.2 a (List.mem_of_mem_take ha)⟩, h2⟩
theorem init_lt {es : List Ent} (hes : ∀ e ∈ es, okE e) (hc : chkN es = 0) : (buildF es).init < 18446744073709551616 := by
  obtain ⟨c1, c2, _⟩ := chk_all es none hc
  unfold buildF
  rw [if_pos hc]
  by_cases hn : es.map wvE = []
  · rw [hn]; decide
  · have hlt : AllLt 256 (es.map wvE) := fun e he => by
      obtain ⟨x, hx, rfl⟩ := List.mem_map.1 he
      have := okW_size (c1 x hx)
      show (wl x.word).length < 256
      rw [wl_length]; omega
    rw [build_K hlt hn c2]
    obtain ⟨e, he, h2⟩ := leastV_mem hn
    obtain ⟨x, hx, rfl⟩ := List.mem_map.1 he
    show leastV (es.map wvE) < _
    rw [h2]
    have := valE_lt (hes x hx)
    show valE x < _
    omega
theorem boxes_two {w W : World} {a b : Array Value} {t t1 : TypeId} (h : (w.alloc (.cells a t)).alloc (.cells b t1) = W) : Below w.heap.size w W ∧ W.heap[w.heap.size]? = some (.cells a t (0, 0)) ∧ W.heap[w.heap.size + 1]? = some (.cells b t1 (0, 0)) := by
  subst h
  refine ⟨((Below.refl _ _).alloc (Nat.le_refl _) _).alloc (by simp) _, ?_, ?_⟩
  · rw [heap_get, if_neg (by simp), heap_get, if_pos rfl]
  · rw [heap_get, if_pos (by simp)]
theorem right_own {es : List Ent} (hc : chkN es = 0) : rightF (buildF es).states (buildF es).init = true := by
  obtain ⟨c1, c2, _⟩ := chk_all es none hc
  unfold buildF
  rw [if_pos hc]
  refine build_right (fun e he => ?_) c2
  obtain ⟨x, hx, rfl⟩ := List.mem_map.1 he
  have := okW_size (c1 x hx)
  show (wl x.word).length < 256
  rw [wl_length]; omega
set_option maxHeartbeats 4000000 in
set_option maxRecDepth 100000 in
theorem builds4 (w : World) (ds : List Dra) (dv : Value) (hrd : RD w w.heap.size dv ds) (hokd : ∀ d ∈ ds, okD d) (sv : Value) (init : Nat) (hinit : init < 18446744073709551616) (ss : List State) (hrs : RS w sv ss) (hokr : ∀ s ∈ ss, s.out < 18446744073709551616 ∧ ∀ a ∈ s.arcs, okA a) (tw ti tk tn : Int) (htw : 0 ≤ tw ∧ tw ≤ 255) (hti : 0 ≤ ti ∧ ti ≤ 255) (htk : 0 ≤ tk ∧ tk ≤ 255) (htn : -32768 ≤ tn ∧ tn ≤ 32767) : Calls Tryd.prog 4 #[dv, .agg #[sv, .int .u64 init], .agg #[.int .u8 tw, .int .u8 ti, .int .u8 tk, .int .i16 tn]] w fun e w1 => e = .returned (.bool true) ∧ Below w.heap.size w w1 := by
 refine calls_of_wp Tryd.func4 rfl ?_
 refine Fact.en 113 fun fr hf hT => ?_
 have s0 := hT 0 _ rfl
 have s1 := hT 1 _ rfl
 have s2 := hT 2 _ rfl
 clear hT
 have hlc := list_chk (n := 30) hokd
 have hlo := (list_ok (n := 30) hokd).1
 have hll := (list_ok (n := 30) hokd).2.2
 have hel := ents_length ds 10
 have heo := ents_ok (n := 10) hokd
 obtain ⟨own, hown⟩ : ∃ x, listOf ds 30 = x := ⟨_, rfl⟩
 obtain ⟨some_, hsome⟩ : ∃ x, entsOf ds 10 = x := ⟨_, rfl⟩
 rw [hown] at hlc hlo hll
 rw [hsome] at hel heo
 have HOWN := Lib.hid hown; have HSOME := Lib.hid hsome; have HRI := Lib.hid (right_own hlc); have HLO := Lib.hid hlo; have HEO := Lib.hid heo; clear hown hsome hlo heo
 obtain ⟨Ar, nr, cr, hsv⟩ := hrs.form3
 subst hsv
 skip
 refine Fact.sq fun K1 hK1 => ?_
 refine rg ?_
 refine fp fun K Z => ?_
 go_simp
 apply Z.out; clear Z K
 refine fp fun K Z => ?_
 go_simp
 apply Z.out; clear Z K
 refine fp fun K Z => ?_
 go_simp
 apply Z.out; clear Z K
 refine Fact.z hf fun fr1 hf1 hT => ?_
 have hKp : _ ∧ _ ∧ _ := ⟨hT 0, hT 4, hT 5⟩
 simp (decide := true) only [Fact.G, hf.size, reduceIte, s0] at hKp
 replace hf := hf1; clear hT hf1 s0 s1 s2
 obtain ⟨s0, s4, s5⟩ := hKp
 obtain ⟨W0, hW0⟩ : ∃ x, (w.alloc (.cells #[.slice Ar nr cr, .int .u64 init] 33)).alloc (.cells #[.int .u8 tw, .int .u8 ti, .int .u8 tk, .int .i16 tn] 52) = x := ⟨_, rfl⟩
 try simp only [World.size_alloc] at s4 s5
 try rw [hW0]
 obtain ⟨hb0, hp0, hp1⟩ := boxes_two hW0
 clear hW0
 have hrd0 := (hrd.below hb0).more hb0.size
 have hrs0 := hrs.later hb0
 refine nx (hK1 _ _ ?_)
 refine Fact.sq fun K2 hK2 => ?_
 refine rg ?_
 have b23 := hf.b 23
 have b24 := hf.b 24
 refine fp fun K Z => ?_
 go_simp
 apply Z.out; clear Z K
 refine fp fun K Z => ?_
 go_simp
 go_at_call 7; refine (list_ W0 ds 30 (by omega) dv hrd0 hokd).mono ?_; rintro e w1 ⟨v1, rfl, how1, hb1⟩
 rw [HOWN.out] at how1
 try dsimp only
 apply Z.out; clear Z K
 refine fp fun K Z => ?_
 go_simp
 apply Z.out; clear Z K
 refine Fact.z hf fun fr1 hf1 hT => ?_
 have hKp : _ ∧ _ ∧ _ ∧ _ := ⟨hT 0, hT 4, hT 5, hT 7⟩
 simp (decide := true) only [Fact.G, hf.size, reduceIte, s0, s4, s5] at hKp
 replace hf := hf1; clear hT hf1 s0 s4 s5 b23 b24
 obtain ⟨s0, s4, s5, s7⟩ := hKp
 replace hp0 := (hb1.block _ (heap_lt hp0)).trans hp0
 replace hp1 := (hb1.block _ (heap_lt hp1)).trans hp1
 replace hrs0 := hrs0.later hb1
 have hre1 := (OE.re (es := own) how1)
 have hrd1 := (hrd0.below hb1).more hb1.size
 have hbw := hb0.trans (hb1.mono hb0.size)
 clear how1 hrd0 hb0 hb1
 refine nx (hK2 _ _ ?_)
 refine Fact.sq fun K3 hK3 => ?_
 refine rg ?_
 have b25 := hf.b 25
 have b26 := hf.b 26
 refine fp fun K Z => ?_
 go_simp
 apply Z.out; clear Z K
 refine fp fun K Z => ?_
 go_simp
 go_at_call 17; refine (entries w1 ds 10 (by omega) dv hrd1 hokd).mono ?_; rintro e w2 ⟨v2, rfl, how2, hb2⟩
 rw [HSOME.out] at how2
 try dsimp only
 apply Z.out; clear Z K
 refine fp fun K Z => ?_
 go_simp
 apply Z.out; clear Z K
 refine Fact.z hf fun fr1 hf1 hT => ?_
 have hKp : _ ∧ _ ∧ _ ∧ _ := ⟨hT 4, hT 5, hT 7, hT 8⟩
 simp (decide := true) only [Fact.G, hf.size, reduceIte, s4, s5, s7] at hKp
 replace hf := hf1; clear hT hf1 s0 s4 s5 s7 b25 b26
 obtain ⟨s4, s5, s7, s8⟩ := hKp
 replace hp0 := (hb2.block _ (heap_lt hp0)).trans hp0
 replace hp1 := (hb2.block _ (heap_lt hp1)).trans hp1
 replace hrs0 := hrs0.later hb2
 replace hre1 := hre1.later hb2
 have hre2 := (OE.re (es := some_) how2)
 replace hre1 := hre1.any
 replace hbw := hbw.trans (hb2.mono hbw.size)
 clear how2 hrd1 hb2
 refine nx (hK3 _ _ ?_)
 refine Fact.sq fun K4 hK4 => ?_
 refine rg ?_
 have b28 := hf.b 28
 have b29 := hf.b 29
 have b27 := hf.b 27
 have b30 := hf.b 30
 have b31 := hf.b 31
 have b9 := hf.b 9
 refine fp fun K Z => ?_
 go_simp
 apply Z.out; clear Z K
 refine fp fun K Z => ?_
 go_simp
 go_at_call 8; refine (build8 w2 own _ v1 (Nat.le_refl _) hre1 (by omega) (fun e he => (HLO.out e he).1)).mono ?_; rintro e w3 ⟨sv3, rfl, r3, hg3, hl3, hb3⟩
 try dsimp only
 apply Z.out; clear Z K
 obtain ⟨A3, c3, hsv3, _⟩ := r3.form
 subst hsv3
 refine fp fun K Z => ?_
 go_simp
 apply Z.out; clear Z K
 refine fp fun K Z => ?_
 go_simp
 apply Z.out; clear Z K
 refine fp fun K Z => ?_
 go_simp
 apply Z.out; clear Z K
 refine fp fun K Z => ?_
 go_simp
 apply Z.out; clear Z K
 refine fp fun K Z => ?_
 go_simp
 apply Z.out; clear Z K
 refine fp fun K Z => ?_
 go_simp
 apply Z.out; clear Z K
 refine Fact.z hf fun fr1 hf1 hT => ?_
 have hKp : _ ∧ _ ∧ _ ∧ _ ∧ _ ∧ _ := ⟨hT 4, hT 5, hT 7, hT 8, hT 9, hT 10⟩
 simp (decide := true) only [Fact.G, hf.size, reduceIte, s4, s5, s7, s8] at hKp
 replace hf := hf1; clear hT hf1 s4 s5 s7 s8 b28 b29 b27 b30 b31 b9
 obtain ⟨s4, s5, s7, s8, s9, s10⟩ := hKp
 replace hp0 := (hb3.block _ (heap_lt hp0)).trans hp0
 replace hp1 := (hb3.block _ (heap_lt hp1)).trans hp1
 replace hrs0 := hrs0.later hb3
 replace hre1 := hre1.later hb3
 replace hre2 := hre2.later hb3
 replace hbw := hbw.trans (hb3.mono hbw.size)
 obtain ⟨V3, hV3⟩ : ∃ W0, w3.alloc (.cells #[.slice A3 (buildF own).states.length c3, .int .u64 (buildF own).init] 33) = W0 := ⟨_, rfl⟩
 try rw [hV3]
 obtain ⟨hc3, -, -, hq3, -⟩ := box2 hV3
 clear hV3
 replace hp0 := (hc3.block _ (heap_lt hp0)).trans hp0
 replace hp1 := (hc3.block _ (heap_lt hp1)).trans hp1
 replace hrs0 := hrs0.later hc3
 replace r3 := r3.later hc3
 replace hre1 := hre1.later hc3
 replace hre2 := hre2.later hc3
 replace hbw := hbw.trans (hc3.mono hbw.size)
 replace hre1 := hre1.any; replace hre2 := hre2.any
 clear hb3 hc3
 refine nx (hK4 _ _ ?_)
 refine Fact.sq fun K5 hK5 => ?_
 refine rg ?_
 have b33 := hf.b 33
 have b34 := hf.b 34
 have b32 := hf.b 32
 have b35 := hf.b 35
 have b36 := hf.b 36
 have b11 := hf.b 11
 refine fp fun K Z => ?_
 go_simp
 apply Z.out; clear Z K
 refine fp fun K Z => ?_
 go_simp
 go_at_call 18; refine (rbuild18 V3 own _ v1 (Nat.le_refl _) hre1 (by omega) (fun e he => (HLO.out e he).1)).mono ?_; rintro e w4 ⟨sv4, rfl, r4, hb4⟩
 try dsimp only
 apply Z.out; clear Z K
 obtain ⟨A4, c4, hsv4, _⟩ := r4.form
 subst hsv4
 refine fp fun K Z => ?_
 go_simp
 apply Z.out; clear Z K
 refine fp fun K Z => ?_
 go_simp
 apply Z.out; clear Z K
 refine fp fun K Z => ?_
 go_simp
 apply Z.out; clear Z K
 refine fp fun K Z => ?_
 go_simp
 apply Z.out; clear Z K
 refine fp fun K Z => ?_
 go_simp
 apply Z.out; clear Z K
 refine fp fun K Z => ?_
 go_simp
 apply Z.out; clear Z K
 refine Fact.z hf fun fr1 hf1 hT => ?_
 have hKp : _ ∧ _ ∧ _ ∧ _ ∧ _ ∧ _ ∧ _ := ⟨hT 4, hT 5, hT 8, hT 9, hT 10, hT 11, hT 12⟩
 simp (decide := true) only [Fact.G, hf.size, reduceIte, s4, s5, s8, s9, s10] at hKp
 replace hf := hf1; clear hT hf1 s4 s5 s7 s8 s9 s10 b33 b34 b32 b35 b36 b11
 obtain ⟨s4, s5, s8, s9, s10, s11, s12⟩ := hKp
 replace hp0 := (hb4.block _ (heap_lt hp0)).trans hp0
 replace hp1 := (hb4.block _ (heap_lt hp1)).trans hp1
 replace hq3 := (hb4.block _ (heap_lt hq3)).trans hq3
 replace hrs0 := hrs0.later hb4
 replace hre1 := hre1.later hb4
 replace hre2 := hre2.later hb4
 replace r3 := r3.later hb4
 replace hbw := hbw.trans (hb4.mono hbw.size)
 obtain ⟨V4, hV4⟩ : ∃ W0, w4.alloc (.cells #[.slice A4 (buildF own).states.length c4, .int .u64 (buildF own).init] 33) = W0 := ⟨_, rfl⟩
 try rw [hV4]
 obtain ⟨hc4, -, -, hq4, -⟩ := box2 hV4
 clear hV4
 replace hp0 := (hc4.block _ (heap_lt hp0)).trans hp0
 replace hp1 := (hc4.block _ (heap_lt hp1)).trans hp1
 replace hq3 := (hc4.block _ (heap_lt hq3)).trans hq3
 replace hrs0 := hrs0.later hc4
 replace r4 := r4.later hc4
 replace hre1 := hre1.later hc4
 replace hre2 := hre2.later hc4
 replace r3 := r3.later hc4
 replace hbw := hbw.trans (hc4.mono hbw.size)
 replace hre1 := hre1.any; replace hre2 := hre2.any
 clear hb4 hc4
 refine nx (hK5 _ _ ?_)
 refine Fact.sq fun K6 hK6 => ?_
 refine rg ?_
 have b38 := hf.b 38
 have b39 := hf.b 39
 have b37 := hf.b 37
 have b40 := hf.b 40
 have b41 := hf.b 41
 have b13 := hf.b 13
 refine fp fun K Z => ?_
 go_simp
 apply Z.out; clear Z K
 refine fp fun K Z => ?_
 go_simp
 go_at_call 8; refine (build8 V4 some_ _ v2 (Nat.le_refl _) hre2 (by omega) (fun e he => (HEO.out e he).1)).mono ?_; rintro e w5 ⟨sv5, rfl, r5, hg5, hl5, hb5⟩
 try dsimp only
 apply Z.out; clear Z K
 obtain ⟨A5, c5, hsv5, _⟩ := r5.form
 subst hsv5
 refine fp fun K Z => ?_
 go_simp
 apply Z.out; clear Z K
 refine fp fun K Z => ?_
 go_simp
 apply Z.out; clear Z K
 refine fp fun K Z => ?_
 go_simp
 apply Z.out; clear Z K
 refine fp fun K Z => ?_
 go_simp
 apply Z.out; clear Z K
 refine fp fun K Z => ?_
 go_simp
 apply Z.out; clear Z K
 refine fp fun K Z => ?_
 go_simp
 apply Z.out; clear Z K
 refine Fact.z hf fun fr1 hf1 hT => ?_
 have hKp : _ ∧ _ ∧ _ ∧ _ ∧ _ ∧ _ ∧ _ ∧ _ ∧ _ := ⟨hT 4, hT 5, hT 8, hT 9, hT 10, hT 11, hT 12, hT 13, hT 14⟩
 simp (decide := true) only [Fact.G, hf.size, reduceIte, s4, s5, s8, s9, s10, s11, s12] at hKp
 replace hf := hf1; clear hT hf1 s4 s5 s8 s9 s10 s11 s12 b38 b39 b37 b40 b41 b13
 obtain ⟨s4, s5, s8, s9, s10, s11, s12, s13, s14⟩ := hKp
 replace hp0 := (hb5.block _ (heap_lt hp0)).trans hp0
 replace hp1 := (hb5.block _ (heap_lt hp1)).trans hp1
 replace hq3 := (hb5.block _ (heap_lt hq3)).trans hq3
 replace hq4 := (hb5.block _ (heap_lt hq4)).trans hq4
 replace hrs0 := hrs0.later hb5
 replace hre1 := hre1.later hb5
 replace hre2 := hre2.later hb5
 replace r3 := r3.later hb5
 replace r4 := r4.later hb5
 replace hbw := hbw.trans (hb5.mono hbw.size)
 obtain ⟨V5, hV5⟩ : ∃ W0, w5.alloc (.cells #[.slice A5 (buildF some_).states.length c5, .int .u64 (buildF some_).init] 33) = W0 := ⟨_, rfl⟩
 try rw [hV5]
 obtain ⟨hc5, -, -, hq5, -⟩ := box2 hV5
 clear hV5
 replace hp0 := (hc5.block _ (heap_lt hp0)).trans hp0
 replace hp1 := (hc5.block _ (heap_lt hp1)).trans hp1
 replace hq3 := (hc5.block _ (heap_lt hq3)).trans hq3
 replace hq4 := (hc5.block _ (heap_lt hq4)).trans hq4
 replace hrs0 := hrs0.later hc5
 replace r5 := r5.later hc5
 replace hre1 := hre1.later hc5
 replace hre2 := hre2.later hc5
 replace r3 := r3.later hc5
 replace r4 := r4.later hc5
 replace hbw := hbw.trans (hc5.mono hbw.size)
 replace hre1 := hre1.any; replace hre2 := hre2.any
 clear hb5 hc5
 refine nx (hK6 _ _ ?_)
 refine Fact.sq fun K7 hK7 => ?_
 refine rg ?_
 have b43 := hf.b 43
 have b44 := hf.b 44
 have b42 := hf.b 42
 have b45 := hf.b 45
 have b46 := hf.b 46
 have b15 := hf.b 15
 refine fp fun K Z => ?_
 go_simp
 apply Z.out; clear Z K
 refine fp fun K Z => ?_
 go_simp
 go_at_call 18; refine (rbuild18 V5 some_ _ v2 (Nat.le_refl _) hre2 (by omega) (fun e he => (HEO.out e he).1)).mono ?_; rintro e w6 ⟨sv6, rfl, r6, hb6⟩
 try dsimp only
 apply Z.out; clear Z K
 obtain ⟨A6, c6, hsv6, _⟩ := r6.form
 subst hsv6
 refine fp fun K Z => ?_
 go_simp
 apply Z.out; clear Z K
 refine fp fun K Z => ?_
 go_simp
 apply Z.out; clear Z K
 refine fp fun K Z => ?_
 go_simp
 apply Z.out; clear Z K
 refine fp fun K Z => ?_
 go_simp
 apply Z.out; clear Z K
 refine fp fun K Z => ?_
 go_simp
 apply Z.out; clear Z K
 refine fp fun K Z => ?_
 go_simp
 apply Z.out; clear Z K
 refine Fact.z hf fun fr1 hf1 hT => ?_
 have hKp : _ ∧ _ ∧ _ ∧ _ ∧ _ ∧ _ ∧ _ ∧ _ ∧ _ ∧ _ := ⟨hT 4, hT 5, hT 9, hT 10, hT 11, hT 12, hT 13, hT 14, hT 15, hT 16⟩
 simp (decide := true) only [Fact.G, hf.size, reduceIte, s4, s5, s9, s10, s11, s12, s13, s14] at hKp
 replace hf := hf1; clear hT hf1 s4 s5 s8 s9 s10 s11 s12 s13 s14 b43 b44 b42 b45 b46 b15
 obtain ⟨s4, s5, s9, s10, s11, s12, s13, s14, s15, s16⟩ := hKp
 replace hp0 := (hb6.block _ (heap_lt hp0)).trans hp0
 replace hp1 := (hb6.block _ (heap_lt hp1)).trans hp1
 replace hq3 := (hb6.block _ (heap_lt hq3)).trans hq3
 replace hq4 := (hb6.block _ (heap_lt hq4)).trans hq4
 replace hq5 := (hb6.block _ (heap_lt hq5)).trans hq5
 replace hrs0 := hrs0.later hb6
 replace hre1 := hre1.later hb6
 replace hre2 := hre2.later hb6
 replace r3 := r3.later hb6
 replace r4 := r4.later hb6
 replace r5 := r5.later hb6
 replace hbw := hbw.trans (hb6.mono hbw.size)
 obtain ⟨V6, hV6⟩ : ∃ W0, w6.alloc (.cells #[.slice A6 (buildF some_).states.length c6, .int .u64 (buildF some_).init] 33) = W0 := ⟨_, rfl⟩
 try rw [hV6]
 obtain ⟨hc6, -, -, hq6, -⟩ := box2 hV6
 clear hV6
 replace hp0 := (hc6.block _ (heap_lt hp0)).trans hp0
 replace hp1 := (hc6.block _ (heap_lt hp1)).trans hp1
 replace hq3 := (hc6.block _ (heap_lt hq3)).trans hq3
 replace hq4 := (hc6.block _ (heap_lt hq4)).trans hq4
 replace hq5 := (hc6.block _ (heap_lt hq5)).trans hq5
 replace hrs0 := hrs0.later hc6
 replace r6 := r6.later hc6
 replace hre1 := hre1.later hc6
 replace hre2 := hre2.later hc6
 replace r3 := r3.later hc6
 replace r4 := r4.later hc6
 replace r5 := r5.later hc6
 replace hbw := hbw.trans (hc6.mono hbw.size)
 replace hre1 := hre1.any; replace hre2 := hre2.any
 clear hb6 hc6
 refine nx (hK7 _ _ ?_)
 have a0 := cell_of_row _ _ 0 _ 33 (0, 0) hq3; have a1 := cell_of_row _ _ 1 _ 33 (0, 0) hq3
 simp at a0 a1
 have e0 := cell_of_row _ _ 0 _ 33 (0, 0) hq4; have e1 := cell_of_row _ _ 1 _ 33 (0, 0) hq4
 simp at e0 e1
 have g0 := cell_of_row _ _ 0 _ 33 (0, 0) hq5; have g1 := cell_of_row _ _ 1 _ 33 (0, 0) hq5
 simp at g0 g1
 have i0 := cell_of_row _ _ 0 _ 33 (0, 0) hq6; have i1 := cell_of_row _ _ 1 _ 33 (0, 0) hq6
 simp at i0 i1
 have hs1 : ∀ s ∈ (buildF own).states, s.arcs.length ≤ 4611686018427387904 := fun s hs => by have := (hg3 s hs).few; omega
 have hs2 : ∀ s ∈ (buildF some_).states, s.arcs.length ≤ 4611686018427387904 := fun s hs => by have := (hg5 s hs).few; omega
 have hoo : ∀ s ∈ (buildF own).states, okS s := fun s hs => (hg3 s hs).ok
 have HG3 := Lib.hid hg3; have HS1 := Lib.hid hs1; have HS2 := Lib.hid hs2; have HOO := Lib.hid hoo; clear hg3 hg5 hs1 hs2 hoo
 have q1 : (((chkN own : Nat) : Int) != ((chkN own : Nat) : Int)) = false := by simp
 have q2 : (((chkN some_ : Nat) : Int) != ((chkN some_ : Nat) : Int)) = false := by simp
 have hsz3 : (buildF own).states.length ≤ 10000 := hl3
 have hsz5 : (buildF some_).states.length ≤ 10000 := hl5
 refine Fact.sq fun K8 hK8 => ?_
 refine Fact.sq fun K9 hK9 => ?_
 refine rg ?_
 have b47 := hf.b 47
 have b48 := hf.b 48
 have b49 := hf.b 49
 have b50 := hf.b 50
 have b51 := hf.b 51
 have b52 := hf.b 52
 have b53 := hf.b 53
 have b54 := hf.b 54
 have b55 := hf.b 55
 have b56 := hf.b 56
 have b57 := hf.b 57
 have b58 := hf.b 58
 have b59 := hf.b 59
 have b60 := hf.b 60
 have b61 := hf.b 61
 have b62 := hf.b 62
 have b63 := hf.b 63
 have b64 := hf.b 64
 have b65 := hf.b 65
 have b66 := hf.b 66
 have b67 := hf.b 67
 have b68 := hf.b 68
 have b69 := hf.b 69
 have b70 := hf.b 70
 refine fp fun K Z => ?_
 go_simp
 apply Z.out; clear Z K
 refine fp fun K Z => ?_
 go_simp
 apply Z.out; clear Z K
 refine fp fun K Z => ?_
 go_simp
 go_at_call 19; refine (same_all V6 _ _ _ _ _ _ r3 r4 HS1.out HS1.out (by omega) (by omega) (by simp) (by simp)).mono ?_; rintro e w7 ⟨rfl, hb7⟩
 rw [decide_eq_true rfl]
 replace hp0 := (hb7.block _ (heap_lt hp0)).trans hp0
 replace hp1 := (hb7.block _ (heap_lt hp1)).trans hp1
 replace hq3 := (hb7.block _ (heap_lt hq3)).trans hq3
 replace hq4 := (hb7.block _ (heap_lt hq4)).trans hq4
 replace hq5 := (hb7.block _ (heap_lt hq5)).trans hq5
 replace hq6 := (hb7.block _ (heap_lt hq6)).trans hq6
 replace hrs0 := hrs0.later hb7
 replace r3 := r3.later hb7
 replace r4 := r4.later hb7
 replace r5 := r5.later hb7
 replace r6 := r6.later hb7
 replace a0 := cL hb7 a0
 replace a1 := cL hb7 a1
 replace e0 := cL hb7 e0
 replace e1 := cL hb7 e1
 replace g0 := cL hb7 g0
 replace g1 := cL hb7 g1
 replace i0 := cL hb7 i0
 replace i1 := cL hb7 i1
 replace hbw := hbw.trans (hb7.mono hbw.size)
 try dsimp only
 apply Z.out; clear Z K
 refine fp fun K Z => ?_
 go_simp
 apply Z.out; clear Z K
 refine fp fun K Z => ?_
 go_simp
 apply Z.out; clear Z K
 refine og 4 51 false ?_ fun K Z => ?_
 · (
 simp (decide := true) only [Fact.G, reduceIte, hf.size, q1, q2, Fact.N])
 go_simp
 apply Z.out; clear Z K
 refine og 4 51 false ?_ fun K Z => ?_
 · (
 simp (decide := true) only [Fact.G, reduceIte, hf.size, q1, q2, Fact.N])
 go_simp
 apply Z.out; clear Z K
 refine og 4 51 false ?_ fun K Z => ?_
 · (
 simp (decide := true) only [Fact.G, reduceIte, hf.size, q1, q2, Fact.N])
 go_simp
 apply Z.out; clear Z K
 refine fp fun K Z => ?_
 go_simp
 apply Z.out; clear Z K
 refine fp fun K Z => ?_
 go_simp
 apply Z.out; clear Z K
 refine og 9 56 false ?_ fun K Z => ?_
 · (
 simp (decide := true) only [Fact.G, reduceIte, hf.size, q1, q2, Fact.N])
 go_simp
 apply Z.out; clear Z K
 refine og 9 56 false ?_ fun K Z => ?_
 · (
 simp (decide := true) only [Fact.G, reduceIte, hf.size, q1, q2, Fact.N])
 go_simp
 apply Z.out; clear Z K
 refine og 9 56 false ?_ fun K Z => ?_
 · (
 simp (decide := true) only [Fact.G, reduceIte, hf.size, q1, q2, Fact.N])
 go_simp
 go_at_call 19; refine (same_all w7 _ _ _ _ _ _ r5 r6 HS2.out HS2.out (by omega) (by omega) (by simp) (by simp)).mono ?_; rintro e w8 ⟨rfl, hb8⟩
 rw [decide_eq_true rfl]
 replace hp0 := (hb8.block _ (heap_lt hp0)).trans hp0
 replace hp1 := (hb8.block _ (heap_lt hp1)).trans hp1
 replace hq3 := (hb8.block _ (heap_lt hq3)).trans hq3
 replace hq4 := (hb8.block _ (heap_lt hq4)).trans hq4
 replace hq5 := (hb8.block _ (heap_lt hq5)).trans hq5
 replace hq6 := (hb8.block _ (heap_lt hq6)).trans hq6
 replace hrs0 := hrs0.later hb8
 replace r3 := r3.later hb8
 replace r4 := r4.later hb8
 replace r5 := r5.later hb8
 replace r6 := r6.later hb8
 replace a0 := cL hb8 a0
 replace a1 := cL hb8 a1
 replace e0 := cL hb8 e0
 replace e1 := cL hb8 e1
 replace g0 := cL hb8 g0
 replace g1 := cL hb8 g1
 replace i0 := cL hb8 i0
 replace i1 := cL hb8 i1
 replace hbw := hbw.trans (hb8.mono hbw.size)
 try dsimp only
 apply Z.out; clear Z K
 refine og 9 56 false ?_ fun K Z => ?_
 · (
 simp (decide := true) only [Fact.G, reduceIte, hf.size, q1, q2, Fact.N])
 go_simp
 apply Z.out; clear Z K
 refine fp fun K Z => ?_
 go_simp
 apply Z.out; clear Z K
 refine fp fun K Z => ?_
 go_simp
 apply Z.out; clear Z K
 refine og 15 62 false ?_ fun K Z => ?_
 · (
 simp (decide := true) only [Fact.G, reduceIte, hf.size, q1, q2, Fact.N])
 go_simp
 apply Z.out; clear Z K
 refine og 15 62 false ?_ fun K Z => ?_
 · (
 simp (decide := true) only [Fact.G, reduceIte, hf.size, q1, q2, Fact.N])
 go_simp
 apply Z.out; clear Z K
 refine og 15 62 false ?_ fun K Z => ?_
 · (
 simp (decide := true) only [Fact.G, reduceIte, hf.size, q1, q2, Fact.N])
 go_simp
 apply Z.out; clear Z K
 refine fp fun K Z => ?_
 go_simp
 apply Z.out; clear Z K
 refine fp fun K Z => ?_
 go_simp
 apply Z.out; clear Z K
 refine og 20 67 false ?_ fun K Z => ?_
 · (
 simp (decide := true) only [Fact.G, reduceIte, hf.size, q1, q2, Fact.N])
 go_simp
 apply Z.out; clear Z K
 refine og 20 67 false ?_ fun K Z => ?_
 · (
 simp (decide := true) only [Fact.G, reduceIte, hf.size, q1, q2, Fact.N])
 go_simp
 go_at_call 9; refine (right9 w8 _ _ _ r3 HOO.out (by omega)).mono ?_; rintro e w9 ⟨rfl, hb9⟩
 rw [HRI.out]
 replace hp0 := (hb9.block _ (heap_lt hp0)).trans hp0
 replace hp1 := (hb9.block _ (heap_lt hp1)).trans hp1
 replace hq3 := (hb9.block _ (heap_lt hq3)).trans hq3
 replace hq4 := (hb9.block _ (heap_lt hq4)).trans hq4
 replace hq5 := (hb9.block _ (heap_lt hq5)).trans hq5
 replace hq6 := (hb9.block _ (heap_lt hq6)).trans hq6
 replace hrs0 := hrs0.later hb9
 replace r3 := r3.later hb9
 replace r4 := r4.later hb9
 replace r5 := r5.later hb9
 replace r6 := r6.later hb9
 replace a0 := cL hb9 a0
 replace a1 := cL hb9 a1
 replace e0 := cL hb9 e0
 replace e1 := cL hb9 e1
 replace g0 := cL hb9 g0
 replace g1 := cL hb9 g1
 replace i0 := cL hb9 i0
 replace i1 := cL hb9 i1
 replace hbw := hbw.trans (hb9.mono hbw.size)
 try dsimp only
 apply Z.out; clear Z K
 refine og 20 67 false ?_ fun K Z => ?_
 · (
 simp (decide := true) only [Fact.G, reduceIte, hf.size, q1, q2, Fact.N])
 go_simp
 apply Z.out; clear Z K
 refine fp fun K Z => ?_
 go_simp
 apply Z.out; clear Z K
 refine Fact.z hf fun fr1 hf1 hT => ?_
 have hKp : _ ∧ _ ∧ _ ∧ _ := ⟨hT 4, hT 5, hT 11, hT 71⟩
 simp (decide := true) only [Fact.G, hf.size, reduceIte, s4, s5, s11] at hKp
 replace hf := hf1; clear hT hf1 s4 s5 s9 s10 s11 s12 s13 s14 s15 s16 b47 b48 b49 b50 b51 b52 b53 b54 b55 b56 b57 b58 b59 b60 b61 b62 b63 b64 b65 b66 b67 b68 b69 b70
 obtain ⟨s4, s5, s11, s71⟩ := hKp
 clear hq5 hq6 r5 r6 g0 g1 i0 i1 a0 a1 q1 q2 r3 hq3 hre1 hre2
 refine nx (hK9 _ _ ?_)
 refine Fact.cond_f s71 ?_
 have z0 : w9.cell? ⟨w.heap.size, 0, none⟩ = some (.slice Ar nr cr) := by rw [cell_of_row _ _ 0 _ 33 (0, 0) hp0]; rfl
 have z1 : w9.cell? ⟨w.heap.size, 1, none⟩ = some (.int .u64 init) := by rw [cell_of_row _ _ 1 _ 33 (0, 0) hp0]; rfl
 have t0 : w9.cell? ⟨w.heap.size + 1, 0, none⟩ = some (.int .u8 tw) := by rw [cell_of_row _ _ 0 _ 52 (0, 0) hp1]; rfl
 have t1 : w9.cell? ⟨w.heap.size + 1, 1, none⟩ = some (.int .u8 ti) := by rw [cell_of_row _ _ 1 _ 52 (0, 0) hp1]; rfl
 have t2 : w9.cell? ⟨w.heap.size + 1, 2, none⟩ = some (.int .u8 tk) := by rw [cell_of_row _ _ 2 _ 52 (0, 0) hp1]; rfl
 have t3 : w9.cell? ⟨w.heap.size + 1, 3, none⟩ = some (.int .i16 tn) := by rw [cell_of_row _ _ 3 _ 52 (0, 0) hp1]; rfl
 clear hp0 hp1 hq4
 have hok4 : ∀ s ∈ (buildF own).states, okS s ∧ s.arcs.length ≤ 256 := fun s hs => ⟨HOO.out s hs, (HG3.out s hs).few⟩
 have HOK4 := Lib.hid hok4; clear hok4
 have HINI4 := Lib.hid (init_lt (es := own) (fun e he => (HLO.out e he).1) hlc)
 have HOKR := Lib.hid hokr; clear hokr
 refine wp_skip ?_
 refine nx (hK8 _ _ ?_)
 refine Fact.sq fun K10 hK10 => ?_
 refine Fact.sq fun K11 hK11 => ?_
 refine Stab.tb 113 fun hok => ?_
 apply Stab.tq 0 _ hf hok
 · (
 intro fr1 w1 hh hd hk K Z
 have s4 := Stab.O hh s4
 clear hd
 replace z0 := cL hh.ext z0
 replace z1 := cL hh.ext z1
 replace e0 := cL hh.ext e0
 replace e1 := cL hh.ext e1
 replace hrs0 := hrs0.later hh.ext
 replace r4 := r4.later hh.ext
 replace t0 := cL hh.ext t0
 replace t1 := cL hh.ext t1
 replace t2 := cL hh.ext t2
 replace t3 := cL hh.ext t3
 go_simp
 exact Stab.k Z)
 refine Stab.todo_op (k := 1) (n := 113) (PFst 12 6) hf.size hok.out rfl (PFst.stable _ _) ?_ ?_
 · (
 intro fr1 w1 hh hd hk K Z
 refine Stab.pl ?_
 have s72 := Stab.v 0 0 hd hk []
 clear hd
 replace z0 := cL hh.ext z0
 replace z1 := cL hh.ext z1
 replace e0 := cL hh.ext e0
 replace e1 := cL hh.ext e1
 replace hrs0 := hrs0.later hh.ext
 replace r4 := r4.later hh.ext
 replace t0 := cL hh.ext t0
 replace t1 := cL hh.ext t1
 replace t2 := cL hh.ext t2
 replace t3 := cL hh.ext t3
 go_simp
 go_at_call 20; refine (few20 w1 _ init ss hrs0).mono ?_; rintro e w2 ⟨svf, rfl, hrf, hb⟩
 exact Z.out _ rfl _ _ hb ⟨svf, init, _, rfl, hinit, hrf, by simp; omega, few_ok HOKR.out⟩)
 apply Stab.tq 2 _ hf hok
 · (
 intro fr1 w1 hh hd hk K Z
 have s5 := Stab.O hh s5
 clear hd
 replace z0 := cL hh.ext z0
 replace z1 := cL hh.ext z1
 replace e0 := cL hh.ext e0
 replace e1 := cL hh.ext e1
 replace hrs0 := hrs0.later hh.ext
 replace r4 := r4.later hh.ext
 replace t0 := cL hh.ext t0
 replace t1 := cL hh.ext t1
 replace t2 := cL hh.ext t2
 replace t3 := cL hh.ext t3
 go_simp
 exact Stab.k Z)
 apply Stab.tq 3 _ hf hok
 · (
 intro fr1 w1 hh hd hk K Z
 have s11 := Stab.O hh s11
 clear hd
 replace z0 := cL hh.ext z0
 replace z1 := cL hh.ext z1
 replace e0 := cL hh.ext e0
 replace e1 := cL hh.ext e1
 replace hrs0 := hrs0.later hh.ext
 replace r4 := r4.later hh.ext
 replace t0 := cL hh.ext t0
 replace t1 := cL hh.ext t1
 replace t2 := cL hh.ext t2
 replace t3 := cL hh.ext t3
 go_simp
 exact Stab.k Z)
 refine Stab.todo_op (k := 4) (n := 113) (PFst 10001 257) hf.size hok.out rfl (PFst.stable _ _) ?_ ?_
 · (
 intro fr1 w1 hh hd hk K Z
 refine Stab.pl ?_
 have s74 := Stab.v 2 1 hd hk []
 have s75 := Stab.v 3 0 hd hk []
 clear hd
 replace z0 := cL hh.ext z0
 replace z1 := cL hh.ext z1
 replace e0 := cL hh.ext e0
 replace e1 := cL hh.ext e1
 replace hrs0 := hrs0.later hh.ext
 replace r4 := r4.later hh.ext
 replace t0 := cL hh.ext t0
 replace t1 := cL hh.ext t1
 replace t2 := cL hh.ext t2
 replace t3 := cL hh.ext t3
 go_simp
 go_at_call 21; refine (turned21 w1 tw ti tk tn htw hti htk htn _ _ HINI4.out _ 10000 256 (by omega) (by omega) r4 (by omega) HOK4.out).mono ?_; rintro e w2 ⟨svt, it, rfl, hit, ⟨sst, hrt, hnt, hmt⟩, hb⟩
 exact Z.out _ rfl _ _ hb ⟨svt, it, sst, rfl, hit, hrt, hnt, hmt⟩)
 apply Stab.tq 5 _ hf hok
 · (
 intro fr1 w1 hh hd hk K Z
 have s5 := Stab.O hh s5
 clear hd
 replace z0 := cL hh.ext z0
 replace z1 := cL hh.ext z1
 replace e0 := cL hh.ext e0
 replace e1 := cL hh.ext e1
 replace hrs0 := hrs0.later hh.ext
 replace r4 := r4.later hh.ext
 replace t0 := cL hh.ext t0
 replace t1 := cL hh.ext t1
 replace t2 := cL hh.ext t2
 replace t3 := cL hh.ext t3
 go_simp
 exact Stab.k Z)
 apply Stab.tq 6 _ hf hok
 · (
 intro fr1 w1 hh hd hk K Z
 have s4 := Stab.O hh s4
 clear hd
 replace z0 := cL hh.ext z0
 replace z1 := cL hh.ext z1
 replace e0 := cL hh.ext e0
 replace e1 := cL hh.ext e1
 replace hrs0 := hrs0.later hh.ext
 replace r4 := r4.later hh.ext
 replace t0 := cL hh.ext t0
 replace t1 := cL hh.ext t1
 replace t2 := cL hh.ext t2
 replace t3 := cL hh.ext t3
 go_simp
 exact Stab.k Z)
 refine Stab.todo_op (k := 7) (n := 113) (PFst 12 6) hf.size hok.out rfl (PFst.stable _ _) ?_ ?_
 · (
 intro fr1 w1 hh hd hk K Z
 refine Stab.pl ?_
 have s78 := Stab.v 6 0 hd hk []
 clear hd
 replace z0 := cL hh.ext z0
 replace z1 := cL hh.ext z1
 replace e0 := cL hh.ext e0
 replace e1 := cL hh.ext e1
 replace hrs0 := hrs0.later hh.ext
 replace r4 := r4.later hh.ext
 replace t0 := cL hh.ext t0
 replace t1 := cL hh.ext t1
 replace t2 := cL hh.ext t2
 replace t3 := cL hh.ext t3
 go_simp
 go_at_call 20; refine (few20 w1 _ init ss hrs0).mono ?_; rintro e w2 ⟨svf, rfl, hrf, hb⟩
 exact Z.out _ rfl _ _ hb ⟨svf, init, _, rfl, hinit, hrf, by simp; omega, few_ok HOKR.out⟩)
 refine Stab.todo_op (k := 8) (n := 113) (PFst 13 7) hf.size hok.out rfl (PFst.stable _ _) ?_ ?_
 · (
 intro fr1 w1 hh hd hk K Z
 refine Stab.pl ?_
 have s77 := Stab.v 5 2 hd hk []
 obtain ⟨x79, s79, hp79⟩ := Stab.use (j := 7) (m := 0) hd hk rfl [] (by kernel_rfl) rfl rfl rfl
 obtain ⟨sv79, i79, ss79, rfl, hi79, hr79, hn79, hm79⟩ := hp79
 clear hd
 replace z0 := cL hh.ext z0
 replace z1 := cL hh.ext z1
 replace e0 := cL hh.ext e0
 replace e1 := cL hh.ext e1
 replace hrs0 := hrs0.later hh.ext
 replace r4 := r4.later hh.ext
 replace t0 := cL hh.ext t0
 replace t1 := cL hh.ext t1
 replace t2 := cL hh.ext t2
 replace t3 := cL hh.ext t3
 go_simp
 go_at_call 21; refine (turned21 w1 tw ti tk tn htw hti htk htn sv79 i79 hi79 ss79 12 6 (by omega) (by omega) hr79 hn79 hm79).mono ?_; rintro e w2 ⟨svt, it, rfl, hit, ⟨sst, hrt, hnt, hmt⟩, hb⟩
 exact Z.out _ rfl _ _ hb ⟨svt, it, sst, rfl, hit, hrt, hnt, hmt⟩)
 apply Stab.tq 9 _ hf hok
 · (
 intro fr1 w1 hh hd hk K Z
 have s11 := Stab.O hh s11
 clear hd
 replace z0 := cL hh.ext z0
 replace z1 := cL hh.ext z1
 replace e0 := cL hh.ext e0
 replace e1 := cL hh.ext e1
 replace hrs0 := hrs0.later hh.ext
 replace r4 := r4.later hh.ext
 replace t0 := cL hh.ext t0
 replace t1 := cL hh.ext t1
 replace t2 := cL hh.ext t2
 replace t3 := cL hh.ext t3
 go_simp
 exact Stab.k Z)
 refine Stab.todo_op (k := 10) (n := 113) (PArr) hf.size hok.out rfl (PArr.stable) ?_ ?_
 · (
 intro fr1 w1 hh hd hk K Z
 refine Stab.pl ?_
 obtain ⟨x73, s73, hp73⟩ := Stab.use (j := 1) (m := 8) hd hk rfl [] (by kernel_rfl) rfl rfl rfl
 obtain ⟨sv73, i73, ss73, rfl, hi73, hr73, hn73, hm73⟩ := hp73
 obtain ⟨x76, s76, hp76⟩ := Stab.use (j := 4) (m := 5) hd hk rfl [] (by kernel_rfl) rfl rfl rfl
 obtain ⟨sv76, i76, ss76, rfl, hi76, hr76, hn76, hm76⟩ := hp76
 obtain ⟨x80, s80, hp80⟩ := Stab.use (j := 8) (m := 1) hd hk rfl [] (by kernel_rfl) rfl rfl rfl
 obtain ⟨sv80, i80, ss80, rfl, hi80, hr80, hn80, hm80⟩ := hp80
 have s81 := Stab.v 9 0 hd hk []
 clear hd
 skip
 go_simp
 exact Z.out _ rfl _ _ (Below.refl _ _) ⟨_, _, _, _, _, _, _, _, rfl, ⟨sv73, i73, ss73, rfl, hi73, hr73, by omega, fun s hs => ⟨(hm73 s hs).1, by have := (hm73 s hs).2; omega⟩⟩, ⟨sv76, i76, ss76, rfl, hi76, hr76, hn76, hm76⟩, ⟨sv80, i80, ss80, rfl, hi80, hr80, by omega, fun s hs => ⟨(hm80 s hs).1, by have := (hm80 s hs).2; omega⟩⟩, ⟨_, _, _, rfl, HINI4.out, r4.later hh.ext, by omega, fun s hs => ⟨(HOK4.out s hs).1, by have := (HOK4.out s hs).2; omega⟩⟩⟩)
 apply Stab.tq 11 _ hf hok
 · (
 intro fr1 w1 hh hd hk K Z
 clear hd
 go_simp
 exact Stab.k Z)
 refine Stab.tf hf hok fun fr1 w1 hh hg => ?_
 obtain ⟨x82, s82, hp82⟩ := Stab.end_use (j := 10) (m := 1) hg rfl rfl rfl rfl
 have ha82 := hp82
 have s83 := Stab.f 11 0 hg
 have hf1 := hh.fr hf
 have hx := hh.ext
 replace z0 := cL hx z0
 replace z1 := cL hx z1
 replace e0 := cL hx e0
 replace e1 := cL hx e1
 replace hrs0 := hrs0.later hx
 replace r4 := r4.later hx
 replace t0 := cL hx t0
 replace t1 := cL hx t1
 replace t2 := cL hx t2
 replace t3 := cL hx t3
 clear hg hh hf hok s4 s5 s11 s71
 have hf := hf1; clear hf1
 obtain ⟨pa, pb, pc, pd, ia, ib, ic, id_, hx82, hfa, hfb, hfc, hfd⟩ := ha82
 subst hx82
 obtain ⟨Aa, na, ka, hpa⟩ := PFst.form hfa; subst hpa
 obtain ⟨Ab, nb, kb, hpb⟩ := PFst.form hfb; subst hpb
 obtain ⟨Ac, nc, kc, hpc⟩ := PFst.form hfc; subst hpc
 obtain ⟨Ad, nd, kd, hpd⟩ := PFst.form hfd; subst hpd
 replace hbw := hbw.trans (hx.mono hbw.size)
 have hzx := hbw.size
 obtain ⟨Wx, rfl⟩ : ∃ x, x = w1 := ⟨_, rfl⟩
 clear r4 hrs0 z0 z1 e0 e1 t0 t1 t2 t3 hx
 refine nx (hK11 _ _ ?_)
 refine wp_block ?_
 refine wp_loop_ghost (fun gk fr wr => ∃ (k : Nat), gk = 4 - k ∧ k ≤ 4 ∧ Fact.Fr 113 fr ∧ fr.tmps[82]? = some (.agg #[.slice Aa na ka, .int .u64 ia, .slice Ab nb kb, .int .u64 ib, .slice Ac nc kc, .int .u64 ic, .slice Ad nd kd, .int .u64 id_]) ∧ fr.tmps[83]? = some (.int .i64 k) ∧ Below Wx.heap.size Wx wr) (4) ?_ ?_
 · (
 exact ⟨0, rfl, by omega, hf, s82, s83, Below.refl _ _⟩)
 · (
 clear hf s82 s83
 rintro gk fr wr ⟨k, hk, hi, hf, s82, s83, hb⟩
 have HK := Lib.hid hk; clear hk
 refine Fact.sq fun K12 hK12 => ?_
 refine rg ?_
 refine fp fun K Z => ?_
 go_simp
 apply Z.out; clear Z K
 refine Fact.z hf fun fr1 hf1 hT => ?_
 have hKp : _ ∧ _ ∧ _ := ⟨hT 82, hT 83, hT 84⟩
 simp (decide := true) only [Fact.G, hf.size, reduceIte, s82, s83] at hKp
 replace hf := hf1; clear hT hf1 s82 s83
 obtain ⟨s82, s83, s84⟩ := hKp
 refine nx (hK12 _ _ ?_)
 refine Fact.sq fun K13 hK13 => ?_
 refine Fact.cond_s s84 (fun hq => ?_) (fun hq => ?_)
 · (
 have hk4 : k < 4 := by have h9 := of_decide_eq_true hq; omega
 clear hq
 refine wp_skip ?_
 refine nx (hK13 _ _ ?_)
 refine Fact.sq fun K14 hK14 => ?_
 refine wp_block ?_
 refine Fact.seq_meet (fun fr wq => Fact.Fr 113 fr ∧ fr.tmps[82]? = some (.agg #[.slice Aa na ka, .int .u64 ia, .slice Ab nb kb, .int .u64 ib, .slice Ac nc kc, .int .u64 ic, .slice Ad nd kd, .int .u64 id_]) ∧ fr.tmps[83]? = some (.int .i64 k) ∧ Below wr.heap.size wr wq ∧ ∃ (g : Nat) (sv1 : Value) (i1 : Nat), fr.tmps[18]? = some (.pointer (some ⟨g, 0, none⟩)) ∧ wq.heap[g]? = some (.cells #[sv1, .int .u64 i1] 33 (0, 0)) ∧ PFst 10001 257 (.agg #[sv1, .int .u64 i1]) wq) ?_ ?_
 · (
 obtain rfl | rfl | rfl | rfl : k = 0 ∨ k = 1 ∨ k = 2 ∨ k = 3 := by omega
 · (
 have hty : ∀ (h : 33 < Tryd.prog.types.size), (Tryd.prog.types[33]'h).size = 2 := fun h => by kernel_rfl
 refine rg ?_
 have b85 := hf.b 85
 have b18 := hf.b 18
 refine fp fun K Z => ?_
 go_simp
 apply Z.out; clear Z K
 refine fp fun K Z => ?_
 go_simp
 apply Z.out; clear Z K
 refine fp fun K Z => ?_
 go_simp
 apply Z.out; clear Z K
 refine Fact.z hf fun fr1 hf1 hT => ?_
 have hKp : _ ∧ _ ∧ _ := ⟨hT 18, hT 82, hT 83⟩
 simp (decide := true) only [Fact.G, hf.size, reduceIte, s82, s83] at hKp
 replace hf := hf1; clear hT hf1 s82 s83 s84 b85 b18
 obtain ⟨s18, s82, s83⟩ := hKp
 clear hty
 obtain ⟨W5, hW5⟩ : ∃ W0, wr.alloc (.cells #[.slice Aa na ka, .int .u64 ia] 33) = W0 := ⟨_, rfl⟩
 try rw [hW5]
 obtain ⟨hb5, -, -, hx5, -⟩ := box2 hW5
 clear hW5
 have hfx := PFst.stable _ _ _ _ _ ((hb.mono (Nat.le_refl _)).trans (hb5.mono hb.size)) hfa
 refine Fact.then_normal ?_
 exact ⟨hf, s82, s83, hb5, _, _, _, s18, hx5, hfx⟩)
 · (
 have hty : ∀ (h : 33 < Tryd.prog.types.size), (Tryd.prog.types[33]'h).size = 2 := fun h => by kernel_rfl
 refine rg ?_
 have b85 := hf.b 85
 have b18 := hf.b 18
 refine fp fun K Z => ?_
 go_simp
 apply Z.out; clear Z K
 refine fp fun K Z => ?_
 go_simp
 apply Z.out; clear Z K
 refine fp fun K Z => ?_
 go_simp
 apply Z.out; clear Z K
 refine Fact.z hf fun fr1 hf1 hT => ?_
 have hKp : _ ∧ _ ∧ _ := ⟨hT 18, hT 82, hT 83⟩
 simp (decide := true) only [Fact.G, hf.size, reduceIte, s82, s83] at hKp
 replace hf := hf1; clear hT hf1 s82 s83 s84 b85 b18
 obtain ⟨s18, s82, s83⟩ := hKp
 clear hty
 obtain ⟨W5, hW5⟩ : ∃ W0, wr.alloc (.cells #[.slice Ab nb kb, .int .u64 ib] 33) = W0 := ⟨_, rfl⟩
 try rw [hW5]
 obtain ⟨hb5, -, -, hx5, -⟩ := box2 hW5
 clear hW5
 have hfx := PFst.stable _ _ _ _ _ ((hb.mono (Nat.le_refl _)).trans (hb5.mono hb.size)) hfb
 refine Fact.then_normal ?_
 exact ⟨hf, s82, s83, hb5, _, _, _, s18, hx5, hfx⟩)
 · (
 have hty : ∀ (h : 33 < Tryd.prog.types.size), (Tryd.prog.types[33]'h).size = 2 := fun h => by kernel_rfl
 refine rg ?_
 have b85 := hf.b 85
 have b18 := hf.b 18
 refine fp fun K Z => ?_
 go_simp
 apply Z.out; clear Z K
 refine fp fun K Z => ?_
 go_simp
 apply Z.out; clear Z K
 refine fp fun K Z => ?_
 go_simp
 apply Z.out; clear Z K
 refine Fact.z hf fun fr1 hf1 hT => ?_
 have hKp : _ ∧ _ ∧ _ := ⟨hT 18, hT 82, hT 83⟩
 simp (decide := true) only [Fact.G, hf.size, reduceIte, s82, s83] at hKp
 replace hf := hf1; clear hT hf1 s82 s83 s84 b85 b18
 obtain ⟨s18, s82, s83⟩ := hKp
 clear hty
 obtain ⟨W5, hW5⟩ : ∃ W0, wr.alloc (.cells #[.slice Ac nc kc, .int .u64 ic] 33) = W0 := ⟨_, rfl⟩
 try rw [hW5]
 obtain ⟨hb5, -, -, hx5, -⟩ := box2 hW5
 clear hW5
 have hfx := PFst.stable _ _ _ _ _ ((hb.mono (Nat.le_refl _)).trans (hb5.mono hb.size)) hfc
 refine Fact.then_normal ?_
 exact ⟨hf, s82, s83, hb5, _, _, _, s18, hx5, hfx⟩)
 · (
 have hty : ∀ (h : 33 < Tryd.prog.types.size), (Tryd.prog.types[33]'h).size = 2 := fun h => by kernel_rfl
 refine rg ?_
 have b85 := hf.b 85
 have b18 := hf.b 18
 refine fp fun K Z => ?_
 go_simp
 apply Z.out; clear Z K
 refine fp fun K Z => ?_
 go_simp
 apply Z.out; clear Z K
 refine fp fun K Z => ?_
 go_simp
 apply Z.out; clear Z K
 refine Fact.z hf fun fr1 hf1 hT => ?_
 have hKp : _ ∧ _ ∧ _ := ⟨hT 18, hT 82, hT 83⟩
 simp (decide := true) only [Fact.G, hf.size, reduceIte, s82, s83] at hKp
 replace hf := hf1; clear hT hf1 s82 s83 s84 b85 b18
 obtain ⟨s18, s82, s83⟩ := hKp
 clear hty
 obtain ⟨W5, hW5⟩ : ∃ W0, wr.alloc (.cells #[.slice Ad nd kd, .int .u64 id_] 33) = W0 := ⟨_, rfl⟩
 try rw [hW5]
 obtain ⟨hb5, -, -, hx5, -⟩ := box2 hW5
 clear hW5
 have hfx := PFst.stable _ _ _ _ _ ((hb.mono (Nat.le_refl _)).trans (hb5.mono hb.size)) hfd
 refine Fact.then_normal ?_
 exact ⟨hf, s82, s83, hb5, _, _, _, s18, hx5, hfx⟩))
 · (
 clear hf s82 s83 s84
 rintro fr wq ⟨hf, s82, s83, hbq, g, sv1, i1, s18, hxq, sv2, i2, ss2, he2, hi2, hr2, hn2, hm2⟩
 injection he2 with he2
 injection he2 with he2
 injection he2 with he3 he4
 subst he3
 simp only [List.cons.injEq, Value.int.injEq, Int.natCast_inj, true_and, and_true] at he4
 subst he4
 have hok2 : ∀ s ∈ ss2, okS s := fun s hs => (hm2 s hs).1
 have hfw2 : ∀ s ∈ ss2, s.arcs.length ≤ 1000 := fun s hs => by have := (hm2 s hs).2; omega
 have HOK2 := Lib.hid hok2; have HFW2 := Lib.hid hfw2; clear hok2 hfw2 hm2
 have z0 := cell_of_row _ _ 0 _ 33 (0, 0) hxq; have z1 := cell_of_row _ _ 1 _ 33 (0, 0) hxq
 simp at z0 z1
 obtain ⟨A2, c2, rfl, _⟩ := hr2.form
 replace hb := hb.trans (hbq.mono hb.size)
 clear hbq hxq
 refine Fact.sq fun K15 hK15 => ?_
 refine rg ?_
 have b87 := hf.b 87
 have b88 := hf.b 88
 have b86 := hf.b 86
 have b89 := hf.b 89
 have b90 := hf.b 90
 refine fp fun K Z => ?_
 go_simp
 apply Z.out; clear Z K
 refine fp fun K Z => ?_
 go_simp
 go_at_call 22; refine (size22 wq _ _ ss2 hr2 HOK2.out (by omega) HFW2.out).mono ?_; rintro e w7 ⟨rfl, hb7⟩
 replace z0 := cL hb7 z0; replace z1 := cL hb7 z1
 replace hr2 := hr2.later hb7
 replace hb := hb.trans (hb7.mono hb.size)
 try dsimp only
 apply Z.out; clear Z K
 refine fp fun K Z => ?_
 go_simp
 apply Z.out; clear Z K
 refine fp fun K Z => ?_
 go_simp
 apply Z.out; clear Z K
 refine fp fun K Z => ?_
 go_simp
 apply Z.out; clear Z K
 refine fp fun K Z => ?_
 go_simp
 apply Z.out; clear Z K
 refine fp fun K Z => ?_
 go_simp
 apply Z.out; clear Z K
 refine Fact.z hf fun fr1 hf1 hT => ?_
 have hKp : _ ∧ _ ∧ _ ∧ _ ∧ _ := ⟨hT 18, hT 19, hT 20, hT 82, hT 83⟩
 simp (decide := true) only [Fact.G, hf.size, reduceIte, s18, s82, s83] at hKp
 replace hf := hf1; clear hT hf1 s18 s82 s83 b87 b88 b86 b89 b90
 obtain ⟨s18, s19, s20, s82, s83⟩ := hKp
 refine nx (hK15 _ _ ?_)
 refine Fact.sq fun K16 hK16 => ?_
 refine rg ?_
 have b92 := hf.b 92
 have b93 := hf.b 93
 have b91 := hf.b 91
 have b94 := hf.b 94
 have b95 := hf.b 95
 refine fp fun K Z => ?_
 go_simp
 apply Z.out; clear Z K
 refine fp fun K Z => ?_
 go_simp
 go_at_call 23; refine (rsize23 w7 _ _ ss2 hr2 HOK2.out (by omega) HFW2.out).mono ?_; rintro e w8 ⟨rfl, hb8⟩
 replace z0 := cL hb8 z0; replace z1 := cL hb8 z1
 replace hr2 := hr2.later hb8
 replace hb := hb.trans (hb8.mono hb.size)
 try dsimp only
 apply Z.out; clear Z K
 refine fp fun K Z => ?_
 go_simp
 apply Z.out; clear Z K
 refine fp fun K Z => ?_
 go_simp
 apply Z.out; clear Z K
 refine fp fun K Z => ?_
 go_simp
 apply Z.out; clear Z K
 refine fp fun K Z => ?_
 go_simp
 apply Z.out; clear Z K
 refine fp fun K Z => ?_
 go_simp
 apply Z.out; clear Z K
 refine Fact.z hf fun fr1 hf1 hT => ?_
 have hKp : _ ∧ _ ∧ _ ∧ _ ∧ _ ∧ _ ∧ _ := ⟨hT 18, hT 19, hT 20, hT 21, hT 22, hT 82, hT 83⟩
 simp (decide := true) only [Fact.G, hf.size, reduceIte, s18, s19, s20, s82, s83] at hKp
 replace hf := hf1; clear hT hf1 s18 s19 s20 s82 s83 b92 b93 b91 b94 b95
 obtain ⟨s18, s19, s20, s21, s22, s82, s83⟩ := hKp
 refine nx (hK16 _ _ ?_)
 have hrr := right_ref ss2 i1
 have q1 : (refRight ss2 i1 != refRight ss2 i1) = false := by simp
 have q2 : (((ss2.length : Nat) : Int) != ((ss2.length : Nat) : Int)) = false := by simp
 have q3 : (((arcCount ss2 : Nat) : Int) != ((arcCount ss2 : Nat) : Int)) = false := by simp
 have HRR := Lib.hid hrr; clear hrr
 refine Fact.sq fun K17 hK17 => ?_
 refine Stab.tb 113 fun hok => ?_
 apply Stab.tq 0 _ hf hok
 · (
 intro fr1 w1 hh hd hk K Z
 have s18 := Stab.O hh s18
 clear hd
 replace z0 := cL hh.ext z0
 replace z1 := cL hh.ext z1
 replace hr2 := hr2.later hh.ext
 go_simp
 exact Stab.k Z)
 apply Stab.tq 1 _ hf hok
 · (
 intro fr1 w1 hh hd hk K Z
 have s96 := Stab.v 0 0 hd hk []
 clear hd
 replace z0 := cL hh.ext z0
 replace z1 := cL hh.ext z1
 replace hr2 := hr2.later hh.ext
 go_simp
 go_at_call 9; refine (right9 w1 _ _ ss2 hr2 HOK2.out (by omega)).mono ?_; rintro e w2 ⟨rfl, hbc⟩
 rw [HRR.out]
 exact Z.out _ rfl _ _ hbc rfl)
 apply Stab.tq 2 _ hf hok
 · (
 intro fr1 w1 hh hd hk K Z
 have s18 := Stab.O hh s18
 clear hd
 replace z0 := cL hh.ext z0
 replace z1 := cL hh.ext z1
 replace hr2 := hr2.later hh.ext
 go_simp
 exact Stab.k Z)
 apply Stab.tq 3 _ hf hok
 · (
 intro fr1 w1 hh hd hk K Z
 have s98 := Stab.v 2 0 hd hk []
 clear hd
 replace z0 := cL hh.ext z0
 replace z1 := cL hh.ext z1
 replace hr2 := hr2.later hh.ext
 go_simp
 go_at_call 24; refine (rright24 w1 _ _ ss2 hr2 HOK2.out (by omega)).mono ?_; rintro e w2 ⟨rfl, hbc⟩
 exact Z.out _ rfl _ _ hbc rfl)
 apply Stab.tq 4 _ hf hok
 · (
 intro fr1 w1 hh hd hk K Z
 have s97 := Stab.v 1 2 hd hk []
 have s99 := Stab.v 3 0 hd hk []
 clear hd
 go_simp
 exact Stab.k Z)
 refine Stab.mN 5 4 0 hf hok [] ?_
 apply Stab.tr 6 _ hf hok
 · (
 intro fr1 w1 hh hd hk K Z
 have s101 := Stab.v 5 0 hd hk []
 refine Stab.g s101 ?_
 have s19 := Stab.O hh s19
 clear hd
 go_simp
 exact Stab.k Z)
 apply Stab.tr 7 _ hf hok
 · (
 intro fr1 w1 hh hd hk K Z
 have s101 := Stab.v 5 1 hd hk []
 refine Stab.g s101 ?_
 have s21 := Stab.O hh s21
 clear hd
 go_simp
 exact Stab.k Z)
 apply Stab.tr 8 _ hf hok
 · (
 intro fr1 w1 hh hd hk K Z
 have s101 := Stab.v 5 2 hd hk []
 refine Stab.g s101 ?_
 have s102 := Stab.v 6 1 hd hk []
 have s103 := Stab.v 7 0 hd hk []
 clear hd
 go_simp
 exact Stab.k Z)
 apply Stab.tq 9 _ hf hok
 · (
 intro fr1 w1 hh hd hk K Z
 have s101 := Stab.v 5 3 hd hk []
 have s104 := Stab.v 8 0 hd hk []
 clear hd
 go_simp
 exact Stab.k Z)
 refine Stab.mN 10 9 0 hf hok [] ?_
 apply Stab.tr 11 _ hf hok
 · (
 intro fr1 w1 hh hd hk K Z
 have s106 := Stab.v 10 0 hd hk []
 refine Stab.g s106 ?_
 have s20 := Stab.O hh s20
 clear hd
 go_simp
 exact Stab.k Z)
 apply Stab.tr 12 _ hf hok
 · (
 intro fr1 w1 hh hd hk K Z
 have s106 := Stab.v 10 1 hd hk []
 refine Stab.g s106 ?_
 have s22 := Stab.O hh s22
 clear hd
 go_simp
 exact Stab.k Z)
 apply Stab.tr 13 _ hf hok
 · (
 intro fr1 w1 hh hd hk K Z
 have s106 := Stab.v 10 2 hd hk []
 refine Stab.g s106 ?_
 have s107 := Stab.v 11 1 hd hk []
 have s108 := Stab.v 12 0 hd hk []
 clear hd
 go_simp
 exact Stab.k Z)
 apply Stab.tq 14 _ hf hok
 · (
 intro fr1 w1 hh hd hk K Z
 have s106 := Stab.v 10 3 hd hk []
 have s109 := Stab.v 13 0 hd hk []
 clear hd
 go_simp
 exact Stab.k Z)
 refine Stab.tf hf hok fun fr1 w1 hh hg => ?_
 replace s82 := Stab.O hh s82
 replace s83 := Stab.O hh s83
 have s110 := Stab.f 14 0 hg
 have hf1 := hh.fr hf
 have hx := hh.ext
 replace z0 := cL hx z0
 replace z1 := cL hx z1
 replace hr2 := hr2.later hx
 clear hg hh hf hok s18 s19 s20 s21 s22
 have hf := hf1; clear hf1
 refine nx (hK17 _ _ ?_)
 refine Fact.cond_f s110 ?_
 replace hb := hb.trans (hx.mono hb.size)
 clear q1 q2 q3
 refine wp_skip ?_
 refine Fact.block_normal ?_
 refine nx (hK14 _ _ ?_)
 refine rg ?_
 have b111 := hf.b 111
 refine fp fun K Z => ?_
 go_simp
 try simp (disch := omega) only [Fact.W]
 apply Z.out; clear Z K
 refine fp fun K Z => ?_
 go_simp
 apply Z.out; clear Z K
 refine Fact.z hf fun fr1 hf1 hT => ?_
 have hKp : _ ∧ _ := ⟨hT 82, hT 83⟩
 simp (decide := true) only [Fact.G, hf.size, reduceIte, s82] at hKp
 replace hf := hf1; clear hT hf1 s82 s83 s110 b111
 obtain ⟨s82, s83⟩ := hKp
 refine Fact.then_normal ?_
 exact ⟨_, by have := HK.out; omega, k + 1, rfl, by omega, hf, s82, by rw [s83]; rfl, hb⟩))
 · (
 clear hq
 refine wp_exit ?_
 refine Fact.then_exit ?_
 refine Fact.then_exit ?_
 refine Fact.block_exit ?_
 refine nx (hK10 _ _ ?_)
 refine Fact.sq fun K18 hK18 => ?_
 refine rg ?_
 have b112 := hf.b 112
 refine fp fun K Z => ?_
 go_simp
 go_at_call 6; refine (works6 wr).mono ?_; rintro e w2 ⟨rfl, hb2⟩
 try dsimp only
 apply Z.out; clear Z K
 refine fp fun K Z => ?_
 go_simp
 apply Z.out; clear Z K
 refine Fact.z hf fun fr1 hf1 hT => ?_
 have hKp := hT 6
 simp (decide := true) only [Fact.G, hf.size, reduceIte] at hKp
 replace hf := hf1; clear hT hf1 s82 s83 s84 b112
 have s6 := hKp; clear hKp
 refine nx (hK18 _ _ ?_)
 refine wp_ret ?_
 exact Fact.ret1 rfl hf s6 ⟨rfl, hbw.trans ((hb.mono hbw.size).trans (hb2.mono (by have := hb.size; omega)))⟩))
end Dw
end Go.Proofs.YtgjfhedgdbbinaaDoor
