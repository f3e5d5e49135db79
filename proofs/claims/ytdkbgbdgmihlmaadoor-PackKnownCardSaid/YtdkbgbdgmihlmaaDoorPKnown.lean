/- pack: PackKnown. -/
import Derived.Test.YtdkbgbdgmihlmaaDoorPWorks
import Derived.Test.YtdkbgbdgmihlmaaDoorPGP
import Derived.Test.YtdkbgbdgmihlmaaDoorDSame
import Derived.Test.YtdkbgbdgmihlmaaDoorTools
namespace Go.Proofs.YtdkbgbdgmihlmaaDoor
open Go.RowKit
set_option linter.unusedSimpArgs false
set_option linter.unusedVariables false
set_option linter.unnecessarySimpa false
namespace Dw

theorem bads_may (l : List Fst) (h : l.all (fun x => !mayF 0 x.states) = true) : ∀ x ∈ l, mayF 0 x.states = false := fun x hx => by simpa using List.all_eq_true.1 h x hx
theorem bads_okP (l : List Fst) (h : l.all (fun x => x.states.all okSb && decide (x.states.length ≤ 100000) && decide (x.init < 18446744073709551616)) = true) : ∀ x ∈ l, (∀ s ∈ x.states, okS s) ∧ x.states.length ≤ 100000 ∧ (∀ s ∈ x.states, s.arcs.length ≤ 1000) ∧ x.init < 18446744073709551616 := fun x hx => by
  have h2 := List.all_eq_true.1 h x hx
  rw [Bool.and_eq_true, Bool.and_eq_true, decide_eq_true_eq, decide_eq_true_eq] at h2
  exact ⟨okS_all _ h2.1.1, h2.1.2, few_all _ h2.1.1, h2.2⟩
set_option maxHeartbeats 4000000 in
set_option maxRecDepth 100000 in
theorem known7 (w : World) (hE : ETy w) : Calls Tryd.prog 7 #[] w fun e w1 => e = .returned (.bool true) ∧ Below w.heap.size w w1 := by
 refine calls_of_wp Tryd.func7 rfl ?_
 refine Fact.en 195 fun fr hf hT => ?_
 clear hT
 have hbt := Below.refl w.heap.size w
 have hm257 : ∀ w : World, _ := fun w => make_arcs w 257 (by decide)
 have hm256 : ∀ w : World, _ := fun w => make_arcs w 256 (by decide)
 simp only [show ((257 : Nat) : Int) = 257 from rfl, show ((256 : Nat) : Int) = 256 from rfl] at hm257 hm256
 refine Fact.sq fun K1 hK1 => ?_
 refine rg ?_
 refine fp fun K Z => ?_
 go_simp
 apply Z.out; clear Z K
 refine Fact.z hf fun fr1 hf1 hT => ?_
 replace hf := hf1; clear hT hf1
 refine nx (hK1 _ _ ?_)
 refine Fact.sq fun K2 hK2 => ?_
 refine rg ?_
 have b18 := hf.b 18
 have b19 := hf.b 19
 have b20 := hf.b 20
 have b21 := hf.b 21
 have b22 := hf.b 22
 have b23 := hf.b 23
 have b24 := hf.b 24
 have b25 := hf.b 25
 have b26 := hf.b 26
 have b27 := hf.b 27
 have b28 := hf.b 28
 have b29 := hf.b 29
 have b30 := hf.b 30
 have b31 := hf.b 31
 have b32 := hf.b 32
 have b33 := hf.b 33
 have b34 := hf.b 34
 have b35 := hf.b 35
 have b36 := hf.b 36
 have b37 := hf.b 37
 have b38 := hf.b 38
 have b39 := hf.b 39
 have b40 := hf.b 40
 have b41 := hf.b 41
 have b42 := hf.b 42
 have b43 := hf.b 43
 have b44 := hf.b 44
 refine fp fun K Z => ?_
 go_simp
 apply Z.out; clear Z K
 refine fp fun K Z => ?_
 go_simp
 apply Z.out; clear Z K
 refine fp fun K Z => ?_
 go_simp
 obtain ⟨V1, hV1⟩ : ∃ x, World.alloc w (.cells #[.slice none 0 0, .bool false, .int .u64 1] 64) = x := ⟨_, rfl⟩
 rw [hV1]
 obtain ⟨bV1, x20⟩ := RS.lit hV1 [(.slice none 0 0, ⟨false, 1, []⟩)] rfl (fun x hx => by simp only [List.mem_cons, List.not_mem_nil, or_false] at hx; subst hx; all_goals first | exact RA.nil_)
 replace hbt := hbt.trans (bV1.mono hbt.size)
 replace hE := cL bV1 hE
 clear hV1
 apply Z.out; clear Z K
 refine fp fun K Z => ?_
 go_simp
 apply Z.out; clear Z K
 refine fp fun K Z => ?_
 go_simp
 apply Z.out; clear Z K
 refine fp fun K Z => ?_
 go_simp
 obtain ⟨V2, hV2⟩ : ∃ x, World.alloc V1 (.cells #[.int .u8 0, .int .u64 0, .int .i64 (0)] 66) = x := ⟨_, rfl⟩
 rw [hV2]
 obtain ⟨bV2, x23⟩ := RA.lit hV2 [⟨0, 0, 0⟩] rfl
 replace hbt := hbt.trans (bV2.mono hbt.size)
 replace hE := cL bV2 hE
 replace x20 := x20.later bV2
 clear hV2
 apply Z.out; clear Z K
 refine fp fun K Z => ?_
 go_simp
 apply Z.out; clear Z K
 refine fp fun K Z => ?_
 go_simp
 obtain ⟨V3, hV3⟩ : ∃ x, World.alloc V2 (.cells #[.slice (some ⟨V1.heap.size, 0, none⟩) 1 1, .bool false, .int .u64 0] 64) = x := ⟨_, rfl⟩
 rw [hV3]
 obtain ⟨bV3, x25⟩ := RS.lit hV3 [(.slice (some ⟨V1.heap.size, 0, none⟩) 1 1, ⟨false, 0, [⟨0, 0, 0⟩]⟩)] rfl (fun x hx => by simp only [List.mem_cons, List.not_mem_nil, or_false] at hx; subst hx; all_goals first | exact RA.nil_ | exact x23)
 replace hbt := hbt.trans (bV3.mono hbt.size)
 replace hE := cL bV3 hE
 replace x20 := x20.later bV3
 replace x23 := x23.later bV3
 clear hV3
 apply Z.out; clear Z K
 refine fp fun K Z => ?_
 go_simp
 apply Z.out; clear Z K
 refine fp fun K Z => ?_
 go_simp
 apply Z.out; clear Z K
 refine fp fun K Z => ?_
 go_simp
 apply Z.out; clear Z K
 refine fp fun K Z => ?_
 go_simp
 obtain ⟨V4, hV4⟩ : ∃ x, World.alloc V3 (.cells #[.int .u8 0, .int .u64 0, .int .i64 (1)] 66) = x := ⟨_, rfl⟩
 rw [hV4]
 obtain ⟨bV4, x29⟩ := RA.lit hV4 [⟨0, 0, 1⟩] rfl
 replace hbt := hbt.trans (bV4.mono hbt.size)
 replace hE := cL bV4 hE
 replace x20 := x20.later bV4
 replace x23 := x23.later bV4
 replace x25 := x25.later bV4
 clear hV4
 apply Z.out; clear Z K
 refine fp fun K Z => ?_
 go_simp
 apply Z.out; clear Z K
 refine fp fun K Z => ?_
 go_simp
 obtain ⟨V5, hV5⟩ : ∃ x, World.alloc V4 (.cells #[.slice none 0 0, .bool false, .int .u64 0, .slice (some ⟨V3.heap.size, 0, none⟩) 1 1, .bool false, .int .u64 0] 64) = x := ⟨_, rfl⟩
 rw [hV5]
 obtain ⟨bV5, x31⟩ := RS.lit hV5 [(.slice none 0 0, ⟨false, 0, []⟩), (.slice (some ⟨V3.heap.size, 0, none⟩) 1 1, ⟨false, 0, [⟨0, 0, 1⟩]⟩)] rfl (fun x hx => by simp only [List.mem_cons, List.not_mem_nil, or_false] at hx; rcases hx with rfl | rfl; all_goals first | exact RA.nil_ | exact x29)
 replace hbt := hbt.trans (bV5.mono hbt.size)
 replace hE := cL bV5 hE
 replace x20 := x20.later bV5
 replace x23 := x23.later bV5
 replace x25 := x25.later bV5
 replace x29 := x29.later bV5
 clear hV5
 apply Z.out; clear Z K
 refine fp fun K Z => ?_
 go_simp
 apply Z.out; clear Z K
 refine fp fun K Z => ?_
 go_simp
 apply Z.out; clear Z K
 refine fp fun K Z => ?_
 go_simp
 apply Z.out; clear Z K
 refine fp fun K Z => ?_
 go_simp
 obtain ⟨V6, hV6⟩ : ∃ x, World.alloc V5 (.cells #[.int .u8 0, .int .u64 0, .int .i64 (-1)] 66) = x := ⟨_, rfl⟩
 rw [hV6]
 obtain ⟨bV6, x35⟩ := RA.lit hV6 [⟨0, 0, -1⟩] rfl
 replace hbt := hbt.trans (bV6.mono hbt.size)
 replace hE := cL bV6 hE
 replace x20 := x20.later bV6
 replace x23 := x23.later bV6
 replace x25 := x25.later bV6
 replace x29 := x29.later bV6
 replace x31 := x31.later bV6
 clear hV6
 apply Z.out; clear Z K
 refine fp fun K Z => ?_
 go_simp
 apply Z.out; clear Z K
 refine fp fun K Z => ?_
 go_simp
 obtain ⟨V7, hV7⟩ : ∃ x, World.alloc V6 (.cells #[.slice none 0 0, .bool false, .int .u64 0, .slice (some ⟨V5.heap.size, 0, none⟩) 1 1, .bool false, .int .u64 0] 64) = x := ⟨_, rfl⟩
 rw [hV7]
 obtain ⟨bV7, x37⟩ := RS.lit hV7 [(.slice none 0 0, ⟨false, 0, []⟩), (.slice (some ⟨V5.heap.size, 0, none⟩) 1 1, ⟨false, 0, [⟨0, 0, -1⟩]⟩)] rfl (fun x hx => by simp only [List.mem_cons, List.not_mem_nil, or_false] at hx; rcases hx with rfl | rfl; all_goals first | exact RA.nil_ | exact x35)
 replace hbt := hbt.trans (bV7.mono hbt.size)
 replace hE := cL bV7 hE
 replace x20 := x20.later bV7
 replace x23 := x23.later bV7
 replace x25 := x25.later bV7
 replace x29 := x29.later bV7
 replace x31 := x31.later bV7
 replace x35 := x35.later bV7
 clear hV7
 apply Z.out; clear Z K
 refine fp fun K Z => ?_
 go_simp
 apply Z.out; clear Z K
 refine fp fun K Z => ?_
 go_simp
 apply Z.out; clear Z K
 refine fp fun K Z => ?_
 go_simp
 obtain ⟨V8, hV8⟩ : ∃ x, World.alloc V7 (.cells (acs (zeroL 257)).toArray 66) = x := ⟨_, rfl⟩
 rw [hV8]
 obtain ⟨bV8, x40⟩ := RA.lit hV8 (zeroL 257) rfl
 rw [zeroL_length] at x40
 replace hbt := hbt.trans (bV8.mono hbt.size)
 replace hE := cL bV8 hE
 replace x20 := x20.later bV8
 replace x23 := x23.later bV8
 replace x25 := x25.later bV8
 replace x29 := x29.later bV8
 replace x31 := x31.later bV8
 replace x35 := x35.later bV8
 replace x37 := x37.later bV8
 clear hV8
 apply Z.out; clear Z K
 refine fp fun K Z => ?_
 go_simp
 apply Z.out; clear Z K
 refine fp fun K Z => ?_
 go_simp
 obtain ⟨V9, hV9⟩ : ∃ x, World.alloc V8 (.cells #[.slice none 0 0, .bool false, .int .u64 0, .slice (some ⟨V7.heap.size, 0, none⟩) 257 257, .bool false, .int .u64 0] 64) = x := ⟨_, rfl⟩
 rw [hV9]
 obtain ⟨bV9, x42⟩ := RS.lit hV9 [(.slice none 0 0, ⟨false, 0, []⟩), (.slice (some ⟨V7.heap.size, 0, none⟩) 257 257, ⟨false, 0, (zeroL 257)⟩)] rfl (fun x hx => by simp only [List.mem_cons, List.not_mem_nil, or_false] at hx; rcases hx with rfl | rfl; all_goals first | exact RA.nil_ | exact x40)
 replace hbt := hbt.trans (bV9.mono hbt.size)
 replace hE := cL bV9 hE
 replace x20 := x20.later bV9
 replace x23 := x23.later bV9
 replace x25 := x25.later bV9
 replace x29 := x29.later bV9
 replace x31 := x31.later bV9
 replace x35 := x35.later bV9
 replace x37 := x37.later bV9
 replace x40 := x40.later bV9
 clear hV9
 apply Z.out; clear Z K
 refine fp fun K Z => ?_
 go_simp
 apply Z.out; clear Z K
 refine fp fun K Z => ?_
 go_simp
 obtain ⟨V10, hV10⟩ : ∃ x, World.alloc V9 (.cells #[.slice none 0 0, .int .u64 0, .slice (some ⟨w.heap.size, 0, none⟩) 1 1, .int .u64 0, .slice (some ⟨V2.heap.size, 0, none⟩) 1 1, .int .u64 0, .slice (some ⟨V4.heap.size, 0, none⟩) 2 2, .int .u64 0, .slice (some ⟨V6.heap.size, 0, none⟩) 2 2, .int .u64 0, .slice (some ⟨V8.heap.size, 0, none⟩) 2 2, .int .u64 0] 25) = x := ⟨_, rfl⟩
 rw [hV10]
 obtain ⟨bV10, x44⟩ := RF.lit hV10 [(.slice none 0 0, ⟨[], 0⟩), (.slice (some ⟨w.heap.size, 0, none⟩) 1 1, ⟨[⟨false, 1, []⟩], 0⟩), (.slice (some ⟨V2.heap.size, 0, none⟩) 1 1, ⟨[⟨false, 0, [⟨0, 0, 0⟩]⟩], 0⟩), (.slice (some ⟨V4.heap.size, 0, none⟩) 2 2, ⟨[⟨false, 0, []⟩, ⟨false, 0, [⟨0, 0, 1⟩]⟩], 0⟩), (.slice (some ⟨V6.heap.size, 0, none⟩) 2 2, ⟨[⟨false, 0, []⟩, ⟨false, 0, [⟨0, 0, -1⟩]⟩], 0⟩), (.slice (some ⟨V8.heap.size, 0, none⟩) 2 2, ⟨[⟨false, 0, []⟩, ⟨false, 0, (zeroL 257)⟩], 0⟩)] rfl (fun x hx => by simp only [List.mem_cons, List.not_mem_nil, or_false] at hx; rcases hx with rfl | rfl | rfl | rfl | rfl | rfl; all_goals first | exact RS.nil_ _ | exact x20 | exact x25 | exact x31 | exact x37 | exact x42)
 replace hbt := hbt.trans (bV10.mono hbt.size)
 replace hE := cL bV10 hE
 replace x20 := x20.later bV10
 replace x23 := x23.later bV10
 replace x25 := x25.later bV10
 replace x29 := x29.later bV10
 replace x31 := x31.later bV10
 replace x35 := x35.later bV10
 replace x37 := x37.later bV10
 replace x40 := x40.later bV10
 replace x42 := x42.later bV10
 clear hV10
 apply Z.out; clear Z K
 refine fp fun K Z => ?_
 go_simp
 apply Z.out; clear Z K
 refine Fact.z hf fun fr1 hf1 hT => ?_
 have hKp := hT 1
 simp (decide := true) only [Fact.G, hf.size, reduceIte] at hKp
 replace hf := hf1; clear hT hf1 b18 b19 b20 b21 b22 b23 b24 b25 b26 b27 b28 b29 b30 b31 b32 b33 b34 b35 b36 b37 b38 b39 b40 b41 b42 b43 b44
 have s1 := hKp; clear hKp
 have hrf : RF V10 (.slice (some ⟨V9.heap.size, 0, none⟩) 6 6) ([⟨[], 0⟩, ⟨[⟨false, 1, []⟩], 0⟩, ⟨[⟨false, 0, [⟨0, 0, 0⟩]⟩], 0⟩, ⟨[⟨false, 0, []⟩, ⟨false, 0, [⟨0, 0, 1⟩]⟩], 0⟩, ⟨[⟨false, 0, []⟩, ⟨false, 0, [⟨0, 0, -1⟩]⟩], 0⟩, ⟨[⟨false, 0, []⟩, ⟨false, 0, (zeroL 257)⟩], 0⟩] : List Fst) := x44
 clear x20 x23 x25 x29 x31 x35 x37 x40 x42 x44
 obtain ⟨bads, hbads⟩ : ∃ x, ([⟨[], 0⟩, ⟨[⟨false, 1, []⟩], 0⟩, ⟨[⟨false, 0, [⟨0, 0, 0⟩]⟩], 0⟩, ⟨[⟨false, 0, []⟩, ⟨false, 0, [⟨0, 0, 1⟩]⟩], 0⟩, ⟨[⟨false, 0, []⟩, ⟨false, 0, [⟨0, 0, -1⟩]⟩], 0⟩, ⟨[⟨false, 0, []⟩, ⟨false, 0, (zeroL 257)⟩], 0⟩] : List Fst) = x := ⟨_, rfl⟩
 rw [hbads] at hrf
 have hbl : bads.length = 6 := by rw [← hbads]; rfl
 have hfal : ∀ x ∈ bads, mayF 0 x.states = false := by rw [← hbads]; exact bads_may _ (by kernel_rfl)
 have hoks : ∀ x ∈ bads, (∀ s ∈ x.states, okS s) ∧ x.states.length ≤ 100000 ∧ (∀ s ∈ x.states, s.arcs.length ≤ 1000) ∧ x.init < 18446744073709551616 := by rw [← hbads]; exact bads_okP _ (by kernel_rfl)
 have HL := Lib.hid hbl; have HFA := Lib.hid hfal; have HOKS := Lib.hid hoks; clear hbads hbl hfal hoks hm257
 refine nx (hK2 _ _ ?_)
 refine Fact.sq fun K3 hK3 => ?_
 refine Fact.sq fun K4 hK4 => ?_
 refine rg ?_
 refine fp fun K Z => ?_
 go_simp
 apply Z.out; clear Z K
 refine Fact.z hf fun fr1 hf1 hT => ?_
 have hKp : _ ∧ _ := ⟨hT 1, hT 2⟩
 simp (decide := true) only [Fact.G, hf.size, reduceIte, s1] at hKp
 replace hf := hf1; clear hT hf1 s1
 obtain ⟨s1, s2⟩ := hKp
 refine nx (hK4 _ _ ?_)
 refine wp_block ?_
 refine wp_loop_ghost (fun gk fr wr => ∃ (i : Nat), gk = 6 - i ∧ i ≤ 6 ∧ Fact.Fr 195 fr ∧ fr.tmps[1]? = some (.slice (some ⟨V9.heap.size, 0, none⟩) 6 6) ∧ fr.tmps[2]? = some (.int .i64 i) ∧ Below V10.heap.size V10 wr) (6) ?_ ?_
 · (
 exact ⟨0, rfl, Nat.zero_le _, hf, s1, s2, Below.refl _ _⟩)
 · (
 clear hf s1 s2
 rintro gk fr wr ⟨i, hk, hi, hf, s1, s2, hb⟩
 have HK := Lib.hid hk; clear hk
 refine Fact.sq fun K5 hK5 => ?_
 refine Fact.sq fun K6 hK6 => ?_
 refine rg ?_
 have b45 := hf.b 45
 have b46 := hf.b 46
 have b47 := hf.b 47
 refine fp fun K Z => ?_
 go_simp
 apply Z.out; clear Z K
 refine fp fun K Z => ?_
 go_simp
 apply Z.out; clear Z K
 refine fp fun K Z => ?_
 go_simp
 apply Z.out; clear Z K
 refine fp fun K Z => ?_
 go_simp
 apply Z.out; clear Z K
 refine Fact.z hf fun fr1 hf1 hT => ?_
 have hKp : _ ∧ _ ∧ _ := ⟨hT 1, hT 2, hT 48⟩
 simp (decide := true) only [Fact.G, hf.size, reduceIte, s1, s2] at hKp
 replace hf := hf1; clear hT hf1 s1 s2 b45 b46 b47
 obtain ⟨s1, s2, s48⟩ := hKp
 refine nx (hK6 _ _ ?_)
 refine Fact.cond_s s48 (fun hq => ?_) (fun hq => ?_)
 · (
 have hlt : i < bads.length := by have h9 := of_decide_eq_true hq; have := HL.out; omega
 have hlt6 : i < 6 := by have h9 := of_decide_eq_true hq; omega
 have HQ := Lib.hid hq; clear hq
 obtain ⟨x, hix⟩ : ∃ x, bads[i]? = some x := ⟨_, List.getElem?_eq_getElem hlt⟩
 obtain ⟨bb, off, sv, hbo, e0, e1, hr⟩ := (hrf.later hb).at_ hix
 injection hbo with hbo
 injection hbo with hbo hof
 subst hbo; subst hof
 have hm := List.mem_of_getElem? hix
 have hfa := HFA.out x hm
 have hok := HOKS.out x hm
 simp only [Nat.zero_add] at e0 e1
 have HX := Lib.hid hix; have HFX := Lib.hid hfa; have HOX := Lib.hid hok; clear hix hm hfa hok hlt
 have qz : (bl []).toList.isEmpty = true := by rw [ByteArray.toList_eq]; rfl
 refine wp_skip ?_
 refine nx (hK5 _ _ ?_)
 refine Fact.sq fun K7 hK7 => ?_
 refine wp_block ?_
 refine Fact.sq fun K8 hK8 => ?_
 refine rg ?_
 have b52 := hf.b 52
 have b53 := hf.b 53
 have b54 := hf.b 54
 have b55 := hf.b 55
 have b56 := hf.b 56
 have b51 := hf.b 51
 have b57 := hf.b 57
 have b58 := hf.b 58
 refine fp fun K Z => ?_
 go_simp
 apply Z.out; clear Z K
 refine fp fun K Z => ?_
 go_simp
 apply Z.out; clear Z K
 refine fp fun K Z => ?_
 go_simp
 try rw [if_pos (by omega)]
 apply Z.out; clear Z K
 refine fp fun K Z => ?_
 go_simp
 apply Z.out; clear Z K
 refine fp fun K Z => ?_
 go_simp
 go_at_call 14; refine (put14 wr 0 sv x.init x.states hr HOX.out.1 HOX.out.2.1 HOX.out.2.2.1 HOX.out.2.2.2).mono ?_; rintro e w5 ⟨rfl, hb5⟩
 rw [putR_bad HFX.out]
 have hr5 := hr.later hb5; have y0 := cL hb5 e0; have y1 := cL hb5 e1; have hbb := hb.trans (hb5.mono hb.size)
 try dsimp only
 apply Z.out; clear Z K
 refine fp fun K Z => ?_
 go_simp
 apply Z.out; clear Z K
 refine fp fun K Z => ?_
 go_simp
 apply Z.out; clear Z K
 refine fp fun K Z => ?_
 go_simp
 apply Z.out; clear Z K
 refine fp fun K Z => ?_
 go_simp
 apply Z.out; clear Z K
 refine fp fun K Z => ?_
 go_simp
 apply Z.out; clear Z K
 refine Fact.z hf fun fr1 hf1 hT => ?_
 have hKp : _ ∧ _ ∧ _ ∧ _ := ⟨hT 1, hT 2, hT 3, hT 4⟩
 simp (decide := true) only [Fact.G, hf.size, reduceIte, s1, s2] at hKp
 replace hf := hf1; clear hT hf1 s1 s2 s48 b52 b53 b54 b55 b56 b51 b57 b58
 obtain ⟨s1, s2, s3, s4⟩ := hKp
 refine nx (hK8 _ _ ?_)
 refine Fact.sq fun K9 hK9 => ?_
 refine rg ?_
 have b59 := hf.b 59
 have b60 := hf.b 60
 have b61 := hf.b 61
 have b62 := hf.b 62
 have b63 := hf.b 63
 have b64 := hf.b 64
 have b65 := hf.b 65
 have b66 := hf.b 66
 have b67 := hf.b 67
 have b68 := hf.b 68
 have b69 := hf.b 69
 have b70 := hf.b 70
 have b71 := hf.b 71
 refine fp fun K Z => ?_
 go_simp
 apply Z.out; clear Z K
 refine fp fun K Z => ?_
 go_simp
 apply Z.out; clear Z K
 refine fp fun K Z => ?_
 go_simp
 apply Z.out; clear Z K
 refine og 2 61 false ?_ fun K Z => ?_
 · (
 simp (decide := true) only [Fact.G, reduceIte, hf.size, qz, Fact.N])
 go_simp
 apply Z.out; clear Z K
 refine og 2 61 false ?_ fun K Z => ?_
 · (
 simp (decide := true) only [Fact.G, reduceIte, hf.size, qz, Fact.N])
 go_simp
 apply Z.out; clear Z K
 refine fp fun K Z => ?_
 go_simp
 apply Z.out; clear Z K
 refine fp fun K Z => ?_
 go_simp
 apply Z.out; clear Z K
 refine og 6 65 false ?_ fun K Z => ?_
 · (
 simp (decide := true) only [Fact.G, reduceIte, hf.size, qz, Fact.N])
 go_simp
 apply Z.out; clear Z K
 refine og 6 65 false ?_ fun K Z => ?_
 · (
 simp (decide := true) only [Fact.G, reduceIte, hf.size, qz, Fact.N])
 go_simp
 apply Z.out; clear Z K
 refine og 6 65 false ?_ fun K Z => ?_
 · (
 simp (decide := true) only [Fact.G, reduceIte, hf.size, qz, Fact.N])
 go_simp
 try rw [if_pos (by omega)]
 apply Z.out; clear Z K
 refine og 6 65 false ?_ fun K Z => ?_
 · (
 simp (decide := true) only [Fact.G, reduceIte, hf.size, qz, Fact.N])
 go_simp
 apply Z.out; clear Z K
 refine og 6 65 false ?_ fun K Z => ?_
 · (
 simp (decide := true) only [Fact.G, reduceIte, hf.size, qz, Fact.N])
 go_simp
 go_at_call 21; refine (size21 w5 0 sv x.init x.states hr5 HOX.out.1 HOX.out.2.1 HOX.out.2.2.1 HOX.out.2.2.2).mono ?_; rintro e w6 ⟨rfl, hb6⟩
 rw [putR_bad HFX.out]
 replace hbb := hbb.trans (hb6.mono hbb.size)
 try dsimp only
 apply Z.out; clear Z K
 refine og 6 65 false ?_ fun K Z => ?_
 · (
 simp (decide := true) only [Fact.G, reduceIte, hf.size, qz, Fact.N])
 go_simp
 apply Z.out; clear Z K
 refine fp fun K Z => ?_
 go_simp
 apply Z.out; clear Z K
 refine Fact.z hf fun fr1 hf1 hT => ?_
 have hKp : _ ∧ _ ∧ _ := ⟨hT 1, hT 2, hT 72⟩
 simp (decide := true) only [Fact.G, hf.size, reduceIte, s1, s2] at hKp
 replace hf := hf1; clear hT hf1 s1 s2 s3 s4 b59 b60 b61 b62 b63 b64 b65 b66 b67 b68 b69 b70 b71
 obtain ⟨s1, s2, s72⟩ := hKp
 refine nx (hK9 _ _ ?_)
 clear qz
 refine Fact.cond_f s72 ?_
 refine wp_skip ?_
 refine Fact.block_normal ?_
 refine nx (hK7 _ _ ?_)
 refine rg ?_
 have b49 := hf.b 49
 have b50 := hf.b 50
 refine fp fun K Z => ?_
 go_simp
 apply Z.out; clear Z K
 refine fp fun K Z => ?_
 go_simp
 try simp (disch := omega) only [Fact.W]
 apply Z.out; clear Z K
 refine fp fun K Z => ?_
 go_simp
 apply Z.out; clear Z K
 refine Fact.z hf fun fr1 hf1 hT => ?_
 have hKp : _ ∧ _ := ⟨hT 1, hT 2⟩
 simp (decide := true) only [Fact.G, hf.size, reduceIte, s1] at hKp
 replace hf := hf1; clear hT hf1 s1 s2 s72 b49 b50
 obtain ⟨s1, s2⟩ := hKp
 refine Fact.then_normal ?_
 exact ⟨_, by have := HK.out; omega, i + 1, rfl, by omega, hf, s1, by rw [s2]; rfl, hbb⟩)
 · (
 clear hrf hq
 replace hbt := hbt.trans (hb.mono hbt.size)
 replace hE := cL hb hE
 clear hb
 refine wp_exit ?_
 refine Fact.then_exit ?_
 refine Fact.then_exit ?_
 refine Fact.block_exit ?_
 refine nx (hK3 _ _ ?_)
 refine Fact.sq fun K10 hK10 => ?_
 refine rg ?_
 have b73 := hf.b 73
 have b74 := hf.b 74
 have b75 := hf.b 75
 have b5 := hf.b 5
 refine fp fun K Z => ?_
 go_simp
 apply Z.out; clear Z K
 refine fp fun K Z => ?_
 go_simp
 obtain ⟨U1, hU1⟩ : ∃ x, World.alloc wr (.cells #[.slice none 0 0, .bool true, .int .u64 18446744073709551615] 64) = x := ⟨_, rfl⟩
 rw [hU1]
 obtain ⟨bU1, x74⟩ := RS.lit hU1 [(.slice none 0 0, ⟨true, 18446744073709551615, []⟩)] rfl (fun x hx => by simp only [List.mem_cons, List.not_mem_nil, or_false] at hx; subst hx; all_goals first | exact RA.nil_)
 replace hbt := hbt.trans (bU1.mono hbt.size)
 replace hE := cL bU1 hE
 clear hU1
 apply Z.out; clear Z K
 refine fp fun K Z => ?_
 go_simp
 apply Z.out; clear Z K
 refine fp fun K Z => ?_
 go_simp
 apply Z.out; clear Z K
 refine fp fun K Z => ?_
 go_simp
 apply Z.out; clear Z K
 refine Fact.z hf fun fr1 hf1 hT => ?_
 have hKp := hT 5
 simp (decide := true) only [Fact.G, hf.size, reduceIte] at hKp
 replace hf := hf1; clear hT hf1 s1 s2 s48 b73 b74 b75 b5
 have s5 := hKp; clear hKp
 obtain ⟨W8, hW8⟩ : ∃ x, U1.alloc (.cells #[.slice (some ⟨wr.heap.size, 0, none⟩) 1 1, .int .u64 18446744073709551615] 25) = x := ⟨_, rfl⟩
 try rw [hW8]
 obtain ⟨bW8, y0, y1, -, -⟩ := box2 hW8
 clear hW8
 replace hbt := hbt.trans (bW8.mono hbt.size)
 replace hE := cL bW8 hE
 replace x74 := x74.later bW8
 refine nx (hK10 _ _ ?_)
 refine Fact.sq fun K11 hK11 => ?_
 refine rg ?_
 have b77 := hf.b 77
 have b78 := hf.b 78
 have b76 := hf.b 76
 have b79 := hf.b 79
 have b80 := hf.b 80
 refine fp fun K Z => ?_
 go_simp
 apply Z.out; clear Z K
 refine fp fun K Z => ?_
 go_simp
 go_at_call 14; refine (put14 W8 100000 _ 18446744073709551615 [⟨true, 18446744073709551615, []⟩] x74 (okS_all _ (by kernel_rfl)) (by decide) (few_all _ (by kernel_rfl)) (by decide)).mono ?_; rintro e w9 ⟨rfl, hb9⟩
 have hp9 : pGet (bl (putR 100000 18446744073709551615 [⟨true, 18446744073709551615, []⟩]).1) = .ok (100000, 18446744073709551615, [⟨true, 18446744073709551615, []⟩]) := pGet_put (by kernel_rfl) (okS_all _ (by kernel_rfl)) (by decide) (by unfold M64; omega)
 have hz9 : (putR 100000 18446744073709551615 [⟨true, 18446744073709551615, []⟩]).1.length = 31 := by unfold putR; rw [if_pos (by kernel_rfl)]; rw [Crc.seal_length]; rfl
 have he9 : (putR 100000 18446744073709551615 [⟨true, 18446744073709551615, []⟩]).2 = 0 := by unfold putR; rw [if_pos (by kernel_rfl)]
 obtain ⟨SA, hSA⟩ : ∃ x, bl (putR 100000 18446744073709551615 [⟨true, 18446744073709551615, []⟩]).1 = x := ⟨_, rfl⟩
 dsimp only
 rw [hSA, he9]
 have hsz9 : SA.size = 31 := by rw [← hSA, bl_size, hz9]
 rw [hSA] at hp9
 clear hSA hz9 he9
 replace hbt := hbt.trans (hb9.mono hbt.size)
 replace hE := cL hb9 hE
 replace x74 := x74.later hb9
 replace y0 := cL hb9 y0
 replace y1 := cL hb9 y1
 try dsimp only
 apply Z.out; clear Z K
 refine fp fun K Z => ?_
 go_simp
 apply Z.out; clear Z K
 refine fp fun K Z => ?_
 go_simp
 apply Z.out; clear Z K
 refine fp fun K Z => ?_
 go_simp
 apply Z.out; clear Z K
 refine fp fun K Z => ?_
 go_simp
 apply Z.out; clear Z K
 refine fp fun K Z => ?_
 go_simp
 apply Z.out; clear Z K
 refine Fact.z hf fun fr1 hf1 hT => ?_
 have hKp : _ ∧ _ ∧ _ := ⟨hT 5, hT 6, hT 7⟩
 simp (decide := true) only [Fact.G, hf.size, reduceIte, s5] at hKp
 replace hf := hf1; clear hT hf1 s5 b77 b78 b76 b79 b80
 obtain ⟨s5, s6, s7⟩ := hKp
 refine nx (hK11 _ _ ?_)
 refine Fact.sq fun K12 hK12 => ?_
 refine rg ?_
 have b82 := hf.b 82
 have b83 := hf.b 83
 have b81 := hf.b 81
 have b84 := hf.b 84
 have b85 := hf.b 85
 have b86 := hf.b 86
 have b9 := hf.b 9
 refine fp fun K Z => ?_
 go_simp
 apply Z.out; clear Z K
 refine fp fun K Z => ?_
 go_simp
 go_at_call 15; refine (get15 w9 SA (by omega)).mono ?_; rintro e w10 hget
 rw [hp9] at hget
 obtain ⟨sv10, rfl, hr10, hb10⟩ := hget
 obtain ⟨A10, c10, rfl, hc10⟩ := hr10.form
 dsimp only at hc10 ⊢
 simp only [List.length_cons, List.length_nil, Nat.zero_add] at hc10 hr10 ⊢
 replace hbt := hbt.trans (hb10.mono hbt.size)
 replace hE := cL hb10 hE
 replace x74 := x74.later hb10
 replace y0 := cL hb10 y0
 replace y1 := cL hb10 y1
 try dsimp only
 apply Z.out; clear Z K
 refine fp fun K Z => ?_
 go_simp
 apply Z.out; clear Z K
 refine fp fun K Z => ?_
 go_simp
 apply Z.out; clear Z K
 refine fp fun K Z => ?_
 go_simp
 apply Z.out; clear Z K
 refine fp fun K Z => ?_
 go_simp
 apply Z.out; clear Z K
 refine fp fun K Z => ?_
 go_simp
 apply Z.out; clear Z K
 refine fp fun K Z => ?_
 go_simp
 apply Z.out; clear Z K
 refine fp fun K Z => ?_
 go_simp
 apply Z.out; clear Z K
 refine fp fun K Z => ?_
 go_simp
 apply Z.out; clear Z K
 refine Fact.z hf fun fr1 hf1 hT => ?_
 have hKp : _ ∧ _ ∧ _ ∧ _ ∧ _ := ⟨hT 5, hT 7, hT 8, hT 9, hT 10⟩
 simp (decide := true) only [Fact.G, hf.size, reduceIte, s5, s7] at hKp
 replace hf := hf1; clear hT hf1 s5 s6 s7 b82 b83 b81 b84 b85 b86 b9
 obtain ⟨s5, s7, s8, s9, s10⟩ := hKp
 obtain ⟨W10, hW10⟩ : ∃ x, w10.alloc (.cells #[.slice A10 1 c10, .int .u64 18446744073709551615] 25) = x := ⟨_, rfl⟩
 try rw [hW10]
 obtain ⟨bW10, z0, z1, -, -⟩ := box2 hW10
 clear hW10
 replace hbt := hbt.trans (bW10.mono hbt.size)
 replace hE := cL bW10 hE
 replace x74 := x74.later bW10
 replace y0 := cL bW10 y0
 replace y1 := cL bW10 y1
 replace hr10 := hr10.later bW10
 refine nx (hK12 _ _ ?_)
 refine Fact.sq fun K13 hK13 => ?_
 refine rg ?_
 have b88 := hf.b 88
 have b89 := hf.b 89
 have b87 := hf.b 87
 have b90 := hf.b 90
 have b91 := hf.b 91
 refine fp fun K Z => ?_
 go_simp
 apply Z.out; clear Z K
 refine fp fun K Z => ?_
 go_simp
 go_at_call 14; refine (put14 W10 100001 _ 18446744073709551615 [⟨true, 18446744073709551615, []⟩] x74 (okS_all _ (by kernel_rfl)) (by decide) (few_all _ (by kernel_rfl)) (by decide)).mono ?_; rintro e w11 ⟨rfl, hb11⟩
 rw [putR_bad (by kernel_rfl)]
 replace hbt := hbt.trans (hb11.mono hbt.size)
 replace hE := cL hb11 hE
 replace x74 := x74.later hb11
 replace y0 := cL hb11 y0
 replace y1 := cL hb11 y1
 replace hr10 := hr10.later hb11
 replace z0 := cL hb11 z0
 replace z1 := cL hb11 z1
 try dsimp only
 apply Z.out; clear Z K
 refine fp fun K Z => ?_
 go_simp
 apply Z.out; clear Z K
 refine fp fun K Z => ?_
 go_simp
 apply Z.out; clear Z K
 refine fp fun K Z => ?_
 go_simp
 apply Z.out; clear Z K
 refine fp fun K Z => ?_
 go_simp
 apply Z.out; clear Z K
 refine fp fun K Z => ?_
 go_simp
 apply Z.out; clear Z K
 refine Fact.z hf fun fr1 hf1 hT => ?_
 have hKp : _ ∧ _ ∧ _ ∧ _ ∧ _ ∧ _ := ⟨hT 5, hT 7, hT 8, hT 9, hT 10, hT 12⟩
 simp (decide := true) only [Fact.G, hf.size, reduceIte, s5, s7, s8, s9, s10] at hKp
 replace hf := hf1; clear hT hf1 s5 s7 s8 s9 s10 b88 b89 b87 b90 b91
 obtain ⟨s5, s7, s8, s9, s10, s12⟩ := hKp
 refine nx (hK13 _ _ ?_)
 refine Fact.sq fun K14 hK14 => ?_
 refine rg ?_
 have b93 := hf.b 93
 have b94 := hf.b 94
 have b92 := hf.b 92
 have b95 := hf.b 95
 have b96 := hf.b 96
 refine fp fun K Z => ?_
 go_simp
 apply Z.out; clear Z K
 refine fp fun K Z => ?_
 go_simp
 go_at_call 14; refine (put14 w11 (-1) _ 18446744073709551615 [⟨true, 18446744073709551615, []⟩] x74 (okS_all _ (by kernel_rfl)) (by decide) (few_all _ (by kernel_rfl)) (by decide)).mono ?_; rintro e w12 ⟨rfl, hb12⟩
 rw [putR_bad (by kernel_rfl)]
 replace hbt := hbt.trans (hb12.mono hbt.size)
 replace hE := cL hb12 hE
 replace x74 := x74.later hb12
 replace y0 := cL hb12 y0
 replace y1 := cL hb12 y1
 replace hr10 := hr10.later hb12
 replace z0 := cL hb12 z0
 replace z1 := cL hb12 z1
 try dsimp only
 apply Z.out; clear Z K
 refine fp fun K Z => ?_
 go_simp
 apply Z.out; clear Z K
 refine fp fun K Z => ?_
 go_simp
 apply Z.out; clear Z K
 refine fp fun K Z => ?_
 go_simp
 apply Z.out; clear Z K
 refine fp fun K Z => ?_
 go_simp
 apply Z.out; clear Z K
 refine fp fun K Z => ?_
 go_simp
 apply Z.out; clear Z K
 refine Fact.z hf fun fr1 hf1 hT => ?_
 have hKp : _ ∧ _ ∧ _ ∧ _ ∧ _ ∧ _ ∧ _ := ⟨hT 5, hT 7, hT 8, hT 9, hT 10, hT 12, hT 14⟩
 simp (decide := true) only [Fact.G, hf.size, reduceIte, s5, s7, s8, s9, s10, s12] at hKp
 replace hf := hf1; clear hT hf1 s5 s7 s8 s9 s10 s12 b93 b94 b92 b95 b96
 obtain ⟨s5, s7, s8, s9, s10, s12, s14⟩ := hKp
 refine nx (hK14 _ _ ?_)
 refine Fact.sq fun K15 hK15 => ?_
 refine rg ?_
 have b98 := hf.b 98
 have b99 := hf.b 99
 have b100 := hf.b 100
 have b101 := hf.b 101
 have b102 := hf.b 102
 have b103 := hf.b 103
 have b97 := hf.b 97
 have b104 := hf.b 104
 have b105 := hf.b 105
 refine fp fun K Z => ?_
 go_simp
 apply Z.out; clear Z K
 refine fp fun K Z => ?_
 go_simp
 obtain ⟨U2, hU2⟩ : ∃ x, World.alloc w12 (.cells (acs (zeroL 256)).toArray 66) = x := ⟨_, rfl⟩
 rw [hU2]
 obtain ⟨bU2, x99⟩ := RA.lit hU2 (zeroL 256) rfl
 rw [zeroL_length] at x99
 replace hbt := hbt.trans (bU2.mono hbt.size)
 replace hE := cL bU2 hE
 replace x74 := x74.later bU2
 replace y0 := cL bU2 y0
 replace y1 := cL bU2 y1
 replace hr10 := hr10.later bU2
 replace z0 := cL bU2 z0
 replace z1 := cL bU2 z1
 clear hU2
 apply Z.out; clear Z K
 refine fp fun K Z => ?_
 go_simp
 apply Z.out; clear Z K
 refine fp fun K Z => ?_
 go_simp
 obtain ⟨U3, hU3⟩ : ∃ x, World.alloc U2 (.cells #[.slice none 0 0, .bool false, .int .u64 0, .slice (some ⟨w12.heap.size, 0, none⟩) 256 256, .bool false, .int .u64 0] 64) = x := ⟨_, rfl⟩
 rw [hU3]
 obtain ⟨bU3, x101⟩ := RS.lit hU3 [(.slice none 0 0, ⟨false, 0, []⟩), (.slice (some ⟨w12.heap.size, 0, none⟩) 256 256, ⟨false, 0, (zeroL 256)⟩)] rfl (fun x hx => by simp only [List.mem_cons, List.not_mem_nil, or_false] at hx; rcases hx with rfl | rfl; all_goals first | exact RA.nil_ | exact x99)
 replace hbt := hbt.trans (bU3.mono hbt.size)
 replace hE := cL bU3 hE
 replace x74 := x74.later bU3
 replace y0 := cL bU3 y0
 replace y1 := cL bU3 y1
 replace hr10 := hr10.later bU3
 replace z0 := cL bU3 z0
 replace z1 := cL bU3 z1
 replace x99 := x99.later bU3
 clear hU3
 apply Z.out; clear Z K
 refine fp fun K Z => ?_
 go_simp
 apply Z.out; clear Z K
 refine fp fun K Z => ?_
 go_simp
 go_at_call 14; refine (put14 U3 0 _ 0 [⟨false, 0, []⟩, ⟨false, 0, (zeroL 256)⟩] x101 (okS_all _ (by kernel_rfl)) (by decide) (few_all _ (by kernel_rfl)) (by decide)).mono ?_; rintro e w13 ⟨rfl, hb13⟩
 have he13 : (putR 0 0 [⟨false, 0, []⟩, ⟨false, 0, (zeroL 256)⟩]).2 = 0 := by unfold putR; rw [if_pos (by kernel_rfl)]
 obtain ⟨SB, hSB⟩ : ∃ x, bl (putR 0 0 [⟨false, 0, []⟩, ⟨false, 0, (zeroL 256)⟩]).1 = x := ⟨_, rfl⟩
 dsimp only
 rw [hSB, he13]
 clear hSB he13
 replace hbt := hbt.trans (hb13.mono hbt.size)
 replace hE := cL hb13 hE
 replace x74 := x74.later hb13
 replace y0 := cL hb13 y0
 replace y1 := cL hb13 y1
 replace hr10 := hr10.later hb13
 replace z0 := cL hb13 z0
 replace z1 := cL hb13 z1
 replace x99 := x99.later hb13
 replace x101 := x101.later hb13
 clear x99 x101
 try dsimp only
 apply Z.out; clear Z K
 refine fp fun K Z => ?_
 go_simp
 apply Z.out; clear Z K
 refine fp fun K Z => ?_
 go_simp
 apply Z.out; clear Z K
 refine fp fun K Z => ?_
 go_simp
 apply Z.out; clear Z K
 refine fp fun K Z => ?_
 go_simp
 apply Z.out; clear Z K
 refine fp fun K Z => ?_
 go_simp
 apply Z.out; clear Z K
 refine Fact.z hf fun fr1 hf1 hT => ?_
 have hKp : _ ∧ _ ∧ _ ∧ _ ∧ _ ∧ _ ∧ _ ∧ _ := ⟨hT 5, hT 7, hT 8, hT 9, hT 10, hT 12, hT 14, hT 16⟩
 simp (decide := true) only [Fact.G, hf.size, reduceIte, s5, s7, s8, s9, s10, s12, s14] at hKp
 replace hf := hf1; clear hT hf1 s5 s7 s8 s9 s10 s12 s14 b98 b99 b100 b101 b102 b103 b97 b104 b105
 obtain ⟨s5, s7, s8, s9, s10, s12, s14, s16⟩ := hKp
 refine nx (hK15 _ _ ?_)
 refine Fact.sq fun K16 hK16 => ?_
 refine rg ?_
 refine fp fun K Z => ?_
 go_simp
 apply Z.out; clear Z K
 refine Fact.z hf fun fr1 hf1 hT => ?_
 have hKp : _ ∧ _ ∧ _ ∧ _ ∧ _ ∧ _ ∧ _ ∧ _ ∧ _ := ⟨hT 5, hT 7, hT 8, hT 9, hT 10, hT 12, hT 14, hT 16, hT 17⟩
 simp (decide := true) only [Fact.G, hf.size, reduceIte, s5, s7, s8, s9, s10, s12, s14, s16] at hKp
 replace hf := hf1; clear hT hf1 s5 s7 s8 s9 s10 s12 s14 s16
 obtain ⟨s5, s7, s8, s9, s10, s12, s14, s16, s17⟩ := hKp
 refine nx (hK16 _ _ ?_)
 refine Fact.sq fun K17 hK17 => ?_
 refine rg ?_
 have b106 := hf.b 106
 have b107 := hf.b 107
 have b108 := hf.b 108
 have b109 := hf.b 109
 have b110 := hf.b 110
 have b111 := hf.b 111
 have b112 := hf.b 112
 have b113 := hf.b 113
 have b114 := hf.b 114
 have b115 := hf.b 115
 have b116 := hf.b 116
 have b117 := hf.b 117
 have b118 := hf.b 118
 have b119 := hf.b 119
 have b120 := hf.b 120
 have b121 := hf.b 121
 have b122 := hf.b 122
 have b123 := hf.b 123
 have b124 := hf.b 124
 have b125 := hf.b 125
 have b126 := hf.b 126
 have b127 := hf.b 127
 have b128 := hf.b 128
 have b129 := hf.b 129
 have b130 := hf.b 130
 have b131 := hf.b 131
 have b132 := hf.b 132
 have b133 := hf.b 133
 have b134 := hf.b 134
 have b135 := hf.b 135
 have b136 := hf.b 136
 have b137 := hf.b 137
 have b138 := hf.b 138
 have b139 := hf.b 139
 have b140 := hf.b 140
 have b141 := hf.b 141
 have b142 := hf.b 142
 have b143 := hf.b 143
 have b144 := hf.b 144
 have b145 := hf.b 145
 have b146 := hf.b 146
 have b147 := hf.b 147
 have b148 := hf.b 148
 have b149 := hf.b 149
 have b150 := hf.b 150
 have b151 := hf.b 151
 have b152 := hf.b 152
 have b153 := hf.b 153
 have b154 := hf.b 154
 have b155 := hf.b 155
 have b156 := hf.b 156
 have b157 := hf.b 157
 have b158 := hf.b 158
 have b159 := hf.b 159
 have b160 := hf.b 160
 have b161 := hf.b 161
 have b162 := hf.b 162
 have b163 := hf.b 163
 have b164 := hf.b 164
 have b165 := hf.b 165
 have b166 := hf.b 166
 have b167 := hf.b 167
 have b168 := hf.b 168
 have b169 := hf.b 169
 have b170 := hf.b 170
 have b171 := hf.b 171
 have b172 := hf.b 172
 have b173 := hf.b 173
 have b174 := hf.b 174
 have b175 := hf.b 175
 have b176 := hf.b 176
 have b177 := hf.b 177
 have b178 := hf.b 178
 have b179 := hf.b 179
 have b180 := hf.b 180
 have b181 := hf.b 181
 have b182 := hf.b 182
 have b183 := hf.b 183
 have b184 := hf.b 184
 have b185 := hf.b 185
 have b186 := hf.b 186
 have b187 := hf.b 187
 have b188 := hf.b 188
 have b189 := hf.b 189
 have b190 := hf.b 190
 have b191 := hf.b 191
 have b192 := hf.b 192
 have b193 := hf.b 193
 have b194 := hf.b 194
 refine fp fun K Z => ?_
 go_simp
 apply Z.out; clear Z K
 refine og 0 106 true ?_ fun K Z => ?_
 · (
 simp (decide := true) only [Fact.G, reduceIte, hf.size])
 go_simp
 go_at_call 13; refine (works13 w13 hE).mono ?_; rintro e v1 ⟨rfl, hc1⟩
 replace hbt := hbt.trans (hc1.mono hbt.size)
 replace hE := cL hc1 hE
 replace x74 := x74.later hc1
 replace y0 := cL hc1 y0
 replace y1 := cL hc1 y1
 replace hr10 := hr10.later hc1
 replace z0 := cL hc1 z0
 replace z1 := cL hc1 z1
 try dsimp only
 apply Z.out; clear Z K
 refine fp fun K Z => ?_
 go_simp
 apply Z.out; clear Z K
 refine fp fun K Z => ?_
 go_simp
 apply Z.out; clear Z K
 refine og 3 109 true ?_ fun K Z => ?_
 · (
 simp (decide := true) only [Fact.G, reduceIte, hf.size])
 go_simp
 apply Z.out; clear Z K
 refine og 3 109 true ?_ fun K Z => ?_
 · (
 simp (decide := true) only [Fact.G, reduceIte, hf.size])
 go_simp
 apply Z.out; clear Z K
 refine fp fun K Z => ?_
 go_simp
 apply Z.out; clear Z K
 refine fp fun K Z => ?_
 go_simp
 apply Z.out; clear Z K
 refine og 7 113 true ?_ fun K Z => ?_
 · (
 simp (decide := true) only [Fact.G, reduceIte, hf.size])
 go_simp
 apply Z.out; clear Z K
 refine og 7 113 true ?_ fun K Z => ?_
 · (
 simp (decide := true) only [Fact.G, reduceIte, hf.size])
 go_simp
 apply Z.out; clear Z K
 refine fp fun K Z => ?_
 go_simp
 apply Z.out; clear Z K
 refine fp fun K Z => ?_
 go_simp
 apply Z.out; clear Z K
 refine og 11 117 true ?_ fun K Z => ?_
 · (
 simp (decide := true) only [Fact.G, reduceIte, hf.size])
 go_simp
 apply Z.out; clear Z K
 refine og 11 117 true ?_ fun K Z => ?_
 · (
 simp (decide := true) only [Fact.G, reduceIte, hf.size])
 go_simp
 apply Z.out; clear Z K
 refine fp fun K Z => ?_
 go_simp
 apply Z.out; clear Z K
 refine fp fun K Z => ?_
 go_simp
 apply Z.out; clear Z K
 refine og 15 121 true ?_ fun K Z => ?_
 · (
 simp (decide := true) only [Fact.G, reduceIte, hf.size])
 go_simp
 apply Z.out; clear Z K
 refine og 15 121 true ?_ fun K Z => ?_
 · (
 simp (decide := true) only [Fact.G, reduceIte, hf.size])
 go_simp
 apply Z.out; clear Z K
 refine og 15 121 true ?_ fun K Z => ?_
 · (
 simp (decide := true) only [Fact.G, reduceIte, hf.size])
 go_simp
 go_at_call 16; refine (rsame v1 [⟨true, 18446744073709551615, []⟩] [⟨true, 18446744073709551615, []⟩] 18446744073709551615 18446744073709551615 _ _ hr10 x74 (by intro s hs; simp at hs; subst hs; decide) (by intro s hs; simp at hs; subst hs; decide) (by decide) (by decide)).mono ?_; rintro e v18 ⟨rfl, hc18⟩
 rw [decide_eq_true (show _ ∧ _ from ⟨rfl, rfl⟩)]
 replace hbt := hbt.trans (hc18.mono hbt.size)
 replace hE := cL hc18 hE
 replace x74 := x74.later hc18
 replace y0 := cL hc18 y0
 replace y1 := cL hc18 y1
 replace hr10 := hr10.later hc18
 replace z0 := cL hc18 z0
 replace z1 := cL hc18 z1
 try dsimp only
 apply Z.out; clear Z K
 refine fp fun K Z => ?_
 go_simp
 apply Z.out; clear Z K
 refine fp fun K Z => ?_
 go_simp
 apply Z.out; clear Z K
 refine og 20 126 true ?_ fun K Z => ?_
 · (
 simp (decide := true) only [Fact.G, reduceIte, hf.size])
 go_simp
 apply Z.out; clear Z K
 refine og 20 126 true ?_ fun K Z => ?_
 · (
 simp (decide := true) only [Fact.G, reduceIte, hf.size])
 go_simp
 apply Z.out; clear Z K
 refine fp fun K Z => ?_
 go_simp
 apply Z.out; clear Z K
 refine fp fun K Z => ?_
 go_simp
 apply Z.out; clear Z K
 refine og 24 130 true ?_ fun K Z => ?_
 · (
 simp (decide := true) only [Fact.G, reduceIte, hf.size])
 go_simp
 apply Z.out; clear Z K
 refine og 24 130 true ?_ fun K Z => ?_
 · (
 simp (decide := true) only [Fact.G, reduceIte, hf.size])
 go_simp
 apply Z.out; clear Z K
 refine fp fun K Z => ?_
 go_simp
 apply Z.out; clear Z K
 refine fp fun K Z => ?_
 go_simp
 apply Z.out; clear Z K
 refine og 28 134 true ?_ fun K Z => ?_
 · (
 simp (decide := true) only [Fact.G, reduceIte, hf.size])
 go_simp
 apply Z.out; clear Z K
 refine og 28 134 true ?_ fun K Z => ?_
 · (
 simp (decide := true) only [Fact.G, reduceIte, hf.size])
 go_simp
 apply Z.out; clear Z K
 refine fp fun K Z => ?_
 go_simp
 apply Z.out; clear Z K
 refine fp fun K Z => ?_
 go_simp
 apply Z.out; clear Z K
 refine og 32 138 true ?_ fun K Z => ?_
 · (
 simp (decide := true) only [Fact.G, reduceIte, hf.size])
 go_simp
 go_at_call 22; refine (fails22 v18 _ (by decide) 3 1 (by decide) (by kernel_rfl) hE).mono ?_; rintro e v33 ⟨rfl, hc33⟩
 replace hbt := hbt.trans (hc33.mono hbt.size)
 replace hE := cL hc33 hE
 replace x74 := x74.later hc33
 replace y0 := cL hc33 y0
 replace y1 := cL hc33 y1
 replace hr10 := hr10.later hc33
 replace z0 := cL hc33 z0
 replace z1 := cL hc33 z1
 try dsimp only
 apply Z.out; clear Z K
 refine fp fun K Z => ?_
 go_simp
 apply Z.out; clear Z K
 refine fp fun K Z => ?_
 go_simp
 apply Z.out; clear Z K
 refine og 35 141 true ?_ fun K Z => ?_
 · (
 simp (decide := true) only [Fact.G, reduceIte, hf.size])
 go_simp
 go_at_call 22; refine (fails22 v33 _ (by decide) 6 0 (by decide) (by kernel_rfl) hE).mono ?_; rintro e v36 ⟨rfl, hc36⟩
 replace hbt := hbt.trans (hc36.mono hbt.size)
 replace hE := cL hc36 hE
 replace x74 := x74.later hc36
 replace y0 := cL hc36 y0
 replace y1 := cL hc36 y1
 replace hr10 := hr10.later hc36
 replace z0 := cL hc36 z0
 replace z1 := cL hc36 z1
 try dsimp only
 apply Z.out; clear Z K
 refine fp fun K Z => ?_
 go_simp
 apply Z.out; clear Z K
 refine fp fun K Z => ?_
 go_simp
 apply Z.out; clear Z K
 refine og 38 144 true ?_ fun K Z => ?_
 · (
 simp (decide := true) only [Fact.G, reduceIte, hf.size])
 go_simp
 go_at_call 22; refine (fails22 v36 _ (by decide) 3 3 (by decide) (by kernel_rfl) hE).mono ?_; rintro e v39 ⟨rfl, hc39⟩
 replace hbt := hbt.trans (hc39.mono hbt.size)
 replace hE := cL hc39 hE
 replace x74 := x74.later hc39
 replace y0 := cL hc39 y0
 replace y1 := cL hc39 y1
 replace hr10 := hr10.later hc39
 replace z0 := cL hc39 z0
 replace z1 := cL hc39 z1
 try dsimp only
 apply Z.out; clear Z K
 refine fp fun K Z => ?_
 go_simp
 apply Z.out; clear Z K
 refine fp fun K Z => ?_
 go_simp
 apply Z.out; clear Z K
 refine og 41 147 true ?_ fun K Z => ?_
 · (
 simp (decide := true) only [Fact.G, reduceIte, hf.size])
 go_simp
 go_at_call 22; refine (fails22 v39 _ (by decide) 17 3 (by decide) (by kernel_rfl) hE).mono ?_; rintro e v42 ⟨rfl, hc42⟩
 replace hbt := hbt.trans (hc42.mono hbt.size)
 replace hE := cL hc42 hE
 replace x74 := x74.later hc42
 replace y0 := cL hc42 y0
 replace y1 := cL hc42 y1
 replace hr10 := hr10.later hc42
 replace z0 := cL hc42 z0
 replace z1 := cL hc42 z1
 try dsimp only
 apply Z.out; clear Z K
 refine fp fun K Z => ?_
 go_simp
 apply Z.out; clear Z K
 refine fp fun K Z => ?_
 go_simp
 apply Z.out; clear Z K
 refine og 44 150 true ?_ fun K Z => ?_
 · (
 simp (decide := true) only [Fact.G, reduceIte, hf.size])
 go_simp
 go_at_call 22; refine (fails22 v42 _ (by decide) 17 4 (by decide) (by kernel_rfl) hE).mono ?_; rintro e v45 ⟨rfl, hc45⟩
 replace hbt := hbt.trans (hc45.mono hbt.size)
 replace hE := cL hc45 hE
 replace x74 := x74.later hc45
 replace y0 := cL hc45 y0
 replace y1 := cL hc45 y1
 replace hr10 := hr10.later hc45
 replace z0 := cL hc45 z0
 replace z1 := cL hc45 z1
 try dsimp only
 apply Z.out; clear Z K
 refine fp fun K Z => ?_
 go_simp
 apply Z.out; clear Z K
 refine fp fun K Z => ?_
 go_simp
 apply Z.out; clear Z K
 refine og 47 153 true ?_ fun K Z => ?_
 · (
 simp (decide := true) only [Fact.G, reduceIte, hf.size])
 go_simp
 go_at_call 22; refine (fails22 v45 _ (by decide) 5 3 (by decide) (by kernel_rfl) hE).mono ?_; rintro e v48 ⟨rfl, hc48⟩
 replace hbt := hbt.trans (hc48.mono hbt.size)
 replace hE := cL hc48 hE
 replace x74 := x74.later hc48
 replace y0 := cL hc48 y0
 replace y1 := cL hc48 y1
 replace hr10 := hr10.later hc48
 replace z0 := cL hc48 z0
 replace z1 := cL hc48 z1
 try dsimp only
 apply Z.out; clear Z K
 refine fp fun K Z => ?_
 go_simp
 apply Z.out; clear Z K
 refine fp fun K Z => ?_
 go_simp
 apply Z.out; clear Z K
 refine og 50 156 true ?_ fun K Z => ?_
 · (
 simp (decide := true) only [Fact.G, reduceIte, hf.size])
 go_simp
 apply Z.out; clear Z K
 refine og 50 156 true ?_ fun K Z => ?_
 · (
 simp (decide := true) only [Fact.G, reduceIte, hf.size])
 go_simp
 go_at_call 22; refine (fails22 v48 _ (by decide) 3 5 (by decide) (by kernel_rfl) hE).mono ?_; rintro e v52 ⟨rfl, hc52⟩
 replace hbt := hbt.trans (hc52.mono hbt.size)
 replace hE := cL hc52 hE
 replace x74 := x74.later hc52
 replace y0 := cL hc52 y0
 replace y1 := cL hc52 y1
 replace hr10 := hr10.later hc52
 replace z0 := cL hc52 z0
 replace z1 := cL hc52 z1
 try dsimp only
 apply Z.out; clear Z K
 refine fp fun K Z => ?_
 go_simp
 apply Z.out; clear Z K
 refine fp fun K Z => ?_
 go_simp
 apply Z.out; clear Z K
 refine og 54 160 true ?_ fun K Z => ?_
 · (
 simp (decide := true) only [Fact.G, reduceIte, hf.size])
 go_simp
 apply Z.out; clear Z K
 refine og 54 160 true ?_ fun K Z => ?_
 · (
 simp (decide := true) only [Fact.G, reduceIte, hf.size])
 go_simp
 try simp (disch := omega) only [Fact.W]
 apply Z.out; clear Z K
 refine og 54 160 true ?_ fun K Z => ?_
 · (
 simp (decide := true) only [Fact.G, reduceIte, hf.size])
 go_simp
 go_at_call 22; refine (fails22 v52 _ (by decide) 3 6 (by decide) (by kernel_rfl) hE).mono ?_; rintro e v57 ⟨rfl, hc57⟩
 replace hbt := hbt.trans (hc57.mono hbt.size)
 replace hE := cL hc57 hE
 replace x74 := x74.later hc57
 replace y0 := cL hc57 y0
 replace y1 := cL hc57 y1
 replace hr10 := hr10.later hc57
 replace z0 := cL hc57 z0
 replace z1 := cL hc57 z1
 try dsimp only
 apply Z.out; clear Z K
 refine fp fun K Z => ?_
 go_simp
 apply Z.out; clear Z K
 refine fp fun K Z => ?_
 go_simp
 apply Z.out; clear Z K
 refine og 59 165 true ?_ fun K Z => ?_
 · (
 simp (decide := true) only [Fact.G, reduceIte, hf.size])
 go_simp
 apply Z.out; clear Z K
 refine og 59 165 true ?_ fun K Z => ?_
 · (
 simp (decide := true) only [Fact.G, reduceIte, hf.size])
 go_simp
 try simp (disch := omega) only [Fact.W]
 apply Z.out; clear Z K
 refine og 59 165 true ?_ fun K Z => ?_
 · (
 simp (decide := true) only [Fact.G, reduceIte, hf.size])
 go_simp
 go_at_call 22; refine (fails22 v57 _ (by decide) 17 8 (by decide) (by kernel_rfl) hE).mono ?_; rintro e v62 ⟨rfl, hc62⟩
 replace hbt := hbt.trans (hc62.mono hbt.size)
 replace hE := cL hc62 hE
 replace x74 := x74.later hc62
 replace y0 := cL hc62 y0
 replace y1 := cL hc62 y1
 replace hr10 := hr10.later hc62
 replace z0 := cL hc62 z0
 replace z1 := cL hc62 z1
 try dsimp only
 apply Z.out; clear Z K
 refine fp fun K Z => ?_
 go_simp
 apply Z.out; clear Z K
 refine fp fun K Z => ?_
 go_simp
 apply Z.out; clear Z K
 refine og 64 170 true ?_ fun K Z => ?_
 · (
 simp (decide := true) only [Fact.G, reduceIte, hf.size])
 go_simp
 apply Z.out; clear Z K
 refine og 64 170 true ?_ fun K Z => ?_
 · (
 simp (decide := true) only [Fact.G, reduceIte, hf.size])
 go_simp
 try simp (disch := omega) only [Fact.W]
 apply Z.out; clear Z K
 refine og 64 170 true ?_ fun K Z => ?_
 · (
 simp (decide := true) only [Fact.G, reduceIte, hf.size])
 go_simp
 go_at_call 22; refine (fails22 v62 _ (by decide) 17 9 (by decide) (by kernel_rfl) hE).mono ?_; rintro e v67 ⟨rfl, hc67⟩
 replace hbt := hbt.trans (hc67.mono hbt.size)
 replace hE := cL hc67 hE
 replace x74 := x74.later hc67
 replace y0 := cL hc67 y0
 replace y1 := cL hc67 y1
 replace hr10 := hr10.later hc67
 replace z0 := cL hc67 z0
 replace z1 := cL hc67 z1
 try dsimp only
 apply Z.out; clear Z K
 refine fp fun K Z => ?_
 go_simp
 apply Z.out; clear Z K
 refine fp fun K Z => ?_
 go_simp
 apply Z.out; clear Z K
 refine og 69 175 true ?_ fun K Z => ?_
 · (
 simp (decide := true) only [Fact.G, reduceIte, hf.size])
 go_simp
 apply Z.out; clear Z K
 refine og 69 175 true ?_ fun K Z => ?_
 · (
 simp (decide := true) only [Fact.G, reduceIte, hf.size])
 go_simp
 try simp (disch := omega) only [Fact.W]
 apply Z.out; clear Z K
 refine og 69 175 true ?_ fun K Z => ?_
 · (
 simp (decide := true) only [Fact.G, reduceIte, hf.size])
 go_simp
 go_at_call 22; refine (fails22 v67 _ (by decide) 17 9 (by decide) (by kernel_rfl) hE).mono ?_; rintro e v72 ⟨rfl, hc72⟩
 replace hbt := hbt.trans (hc72.mono hbt.size)
 replace hE := cL hc72 hE
 replace x74 := x74.later hc72
 replace y0 := cL hc72 y0
 replace y1 := cL hc72 y1
 replace hr10 := hr10.later hc72
 replace z0 := cL hc72 z0
 replace z1 := cL hc72 z1
 try dsimp only
 apply Z.out; clear Z K
 refine fp fun K Z => ?_
 go_simp
 apply Z.out; clear Z K
 refine fp fun K Z => ?_
 go_simp
 apply Z.out; clear Z K
 refine og 74 180 true ?_ fun K Z => ?_
 · (
 simp (decide := true) only [Fact.G, reduceIte, hf.size])
 go_simp
 apply Z.out; clear Z K
 refine og 74 180 true ?_ fun K Z => ?_
 · (
 simp (decide := true) only [Fact.G, reduceIte, hf.size])
 go_simp
 try simp (disch := omega) only [Fact.W]
 apply Z.out; clear Z K
 refine og 74 180 true ?_ fun K Z => ?_
 · (
 simp (decide := true) only [Fact.G, reduceIte, hf.size])
 go_simp
 go_at_call 22; refine (fails22 v72 _ (by decide) 3 10 (by decide) (by kernel_rfl) hE).mono ?_; rintro e v77 ⟨rfl, hc77⟩
 replace hbt := hbt.trans (hc77.mono hbt.size)
 replace hE := cL hc77 hE
 replace x74 := x74.later hc77
 replace y0 := cL hc77 y0
 replace y1 := cL hc77 y1
 replace hr10 := hr10.later hc77
 replace z0 := cL hc77 z0
 replace z1 := cL hc77 z1
 try dsimp only
 apply Z.out; clear Z K
 refine fp fun K Z => ?_
 go_simp
 apply Z.out; clear Z K
 refine fp fun K Z => ?_
 go_simp
 apply Z.out; clear Z K
 refine og 79 185 true ?_ fun K Z => ?_
 · (
 simp (decide := true) only [Fact.G, reduceIte, hf.size])
 go_simp
 apply Z.out; clear Z K
 refine og 79 185 true ?_ fun K Z => ?_
 · (
 simp (decide := true) only [Fact.G, reduceIte, hf.size])
 go_simp
 try simp (disch := omega) only [Fact.W]
 apply Z.out; clear Z K
 refine og 79 185 true ?_ fun K Z => ?_
 · (
 simp (decide := true) only [Fact.G, reduceIte, hf.size])
 go_simp
 go_at_call 22; refine (fails22 v77 _ (by decide) 4 11 (by decide) (by kernel_rfl) hE).mono ?_; rintro e v82 ⟨rfl, hc82⟩
 replace hbt := hbt.trans (hc82.mono hbt.size)
 replace hE := cL hc82 hE
 replace x74 := x74.later hc82
 replace y0 := cL hc82 y0
 replace y1 := cL hc82 y1
 replace hr10 := hr10.later hc82
 replace z0 := cL hc82 z0
 replace z1 := cL hc82 z1
 try dsimp only
 apply Z.out; clear Z K
 refine fp fun K Z => ?_
 go_simp
 apply Z.out; clear Z K
 refine fp fun K Z => ?_
 go_simp
 apply Z.out; clear Z K
 refine og 84 190 true ?_ fun K Z => ?_
 · (
 simp (decide := true) only [Fact.G, reduceIte, hf.size])
 go_simp
 apply Z.out; clear Z K
 refine og 84 190 true ?_ fun K Z => ?_
 · (
 simp (decide := true) only [Fact.G, reduceIte, hf.size])
 go_simp
 try simp (disch := omega) only [Fact.W]
 apply Z.out; clear Z K
 refine og 84 190 true ?_ fun K Z => ?_
 · (
 simp (decide := true) only [Fact.G, reduceIte, hf.size])
 go_simp
 go_at_call 22; refine (fails22 v82 _ (by decide) 17 6 (by decide) (by kernel_rfl) hE).mono ?_; rintro e v87 ⟨rfl, hc87⟩
 replace hbt := hbt.trans (hc87.mono hbt.size)
 replace hE := cL hc87 hE
 replace x74 := x74.later hc87
 replace y0 := cL hc87 y0
 replace y1 := cL hc87 y1
 replace hr10 := hr10.later hc87
 replace z0 := cL hc87 z0
 replace z1 := cL hc87 z1
 try dsimp only
 apply Z.out; clear Z K
 refine fp fun K Z => ?_
 go_simp
 apply Z.out; clear Z K
 refine fp fun K Z => ?_
 go_simp
 apply Z.out; clear Z K
 refine Fact.z hf fun fr1 hf1 hT => ?_
 have hKp := hT 0
 simp (decide := true) only [Fact.G, hf.size, reduceIte] at hKp
 replace hf := hf1; clear hT hf1 s5 s7 s8 s9 s10 s12 s14 s16 s17 b106 b107 b108 b109 b110 b111 b112 b113 b114 b115 b116 b117 b118 b119 b120 b121 b122 b123 b124 b125 b126 b127 b128 b129 b130 b131 b132 b133 b134 b135 b136 b137 b138 b139 b140 b141 b142 b143 b144 b145 b146 b147 b148 b149 b150 b151 b152 b153 b154 b155 b156 b157 b158 b159 b160 b161 b162 b163 b164 b165 b166 b167 b168 b169 b170 b171 b172 b173 b174 b175 b176 b177 b178 b179 b180 b181 b182 b183 b184 b185 b186 b187 b188 b189 b190 b191 b192 b193 b194
 have s0 := hKp; clear hKp
 refine nx (hK17 _ _ ?_)
 refine wp_ret ?_
 exact Fact.ret1 rfl hf s0 ⟨rfl, hbt⟩))
end Dw
end Go.Proofs.YtdkbgbdgmihlmaaDoor
