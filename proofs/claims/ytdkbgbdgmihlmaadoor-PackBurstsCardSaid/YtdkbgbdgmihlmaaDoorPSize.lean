/- pack: dawg.Size. -/
import Derived.Test.YtdkbgbdgmihlmaaDoorPRS
import Derived.Test.YtdkbgbdgmihlmaaDoorTools
namespace Go.Proofs.YtdkbgbdgmihlmaaDoor
open Go.RowKit
set_option linter.unusedSimpArgs false
set_option linter.unusedVariables false
set_option linter.unnecessarySimpa false
namespace Dw
set_option maxHeartbeats 4000000 in
set_option maxRecDepth 100000 in
theorem size47 (w : World) (sv : Value) (init : Nat) (ss : List State) (hrs : RS w sv ss) (hok : ∀ s ∈ ss, okS s) (hlen : ss.length ≤ 1000000) (hfew : ∀ s ∈ ss, s.arcs.length ≤ 1000) : Calls Tryd.prog 47 #[.agg #[sv, .int .u64 init]] w fun e w1 => e = .returned (.tuple #[.int .i64 ss.length, .int .i64 (arcCount ss : Nat)]) ∧ Below w.heap.size w w1 := by
 refine calls_of_wp Tryd.func47 rfl ?_
 refine Fact.en 23 fun fr hf hT => ?_
 have s0 := hT 0 _ rfl
 clear hT
 obtain ⟨A, cc, rfl, hcc⟩ := hrs.form
 have HO := Lib.hid hok; have HF := Lib.hid hfew; clear hok hfew
 refine Fact.sq fun K1 hK1 => ?_
 refine rg ?_
 refine fp fun K Z => ?_
 go_simp
 apply Z.out; clear Z K
 refine fp fun K Z => ?_
 go_simp
 apply Z.out; clear Z K
 refine fp fun K Z => ?_
 go_simp
 apply Z.out; clear Z K
 refine Fact.z hf fun fr1 hf1 hT => ?_
 have hKp : _ ∧ _ := ⟨hT 1, hT 3⟩
 simp (decide := true) only [Fact.G, hf.size, reduceIte] at hKp
 replace hf := hf1; clear hT hf1 s0
 obtain ⟨s1, s3⟩ := hKp
 obtain ⟨W0, hW0⟩ : ∃ W0, w.alloc (.cells #[.slice A ss.length cc, .int .u64 init] 25) = W0 := ⟨_, rfl⟩
 try rw [hW0]
 obtain ⟨hb0, c0, c1, -, -⟩ := box2 hW0
 clear hW0
 have hr0 := hrs.later hb0
 clear hrs
 refine nx (hK1 _ _ ?_)
 refine Fact.sq fun K2 hK2 => ?_
 refine Fact.sq fun K3 hK3 => ?_
 refine rg ?_
 have b6 := hf.b 6
 have b7 := hf.b 7
 refine fp fun K Z => ?_
 go_simp
 apply Z.out; clear Z K
 refine fp fun K Z => ?_
 go_simp
 apply Z.out; clear Z K
 refine fp fun K Z => ?_
 go_simp
 apply Z.out; clear Z K
 refine fp fun K Z => ?_
 go_simp
 apply Z.out; clear Z K
 refine Fact.z hf fun fr1 hf1 hT => ?_
 have hKp : _ ∧ _ ∧ _ ∧ _ ∧ _ := ⟨hT 1, hT 3, hT 7, hT 8, hT 9⟩
 simp (decide := true) only [Fact.G, hf.size, reduceIte, s1, s3] at hKp
 replace hf := hf1; clear hT hf1 s1 s3 b6 b7
 obtain ⟨s1, s3, s7, s8, s9⟩ := hKp
 refine nx (hK3 _ _ ?_)
 refine wp_block ?_
 refine wp_loop_ghost (fun gk fr wr => ∃ (i : Nat), gk = ss.length - i ∧ i ≤ ss.length ∧ Fact.Fr 23 fr ∧ fr.tmps[1]? = some (.pointer (some ⟨w.heap.size, 0, none⟩)) ∧ fr.tmps[3]? = some (.int .i64 (arcCount (ss.take i) : Nat)) ∧ fr.tmps[7]? = some (.slice A ss.length cc) ∧ fr.tmps[8]? = some (.int .i64 ss.length) ∧ fr.tmps[9]? = some (.int .i64 i) ∧ Below W0.heap.size W0 wr) (ss.length) ?_ ?_
 · (
 exact ⟨0, rfl, Nat.zero_le _, hf, s1, s3, s7, s8, s9, Below.refl _ _⟩)
 · (
 clear hf s1 s3 s7 s8 s9
 rintro gk fr wr ⟨i, hk, hi, hf, s1, s3, s7, s8, s9, hb⟩
 have HK := Lib.hid hk; clear hk
 refine Fact.sq fun K4 hK4 => ?_
 refine rg ?_
 refine fp fun K Z => ?_
 go_simp
 apply Z.out; clear Z K
 refine Fact.z hf fun fr1 hf1 hT => ?_
 have hKp : _ ∧ _ ∧ _ ∧ _ ∧ _ ∧ _ := ⟨hT 1, hT 3, hT 7, hT 8, hT 9, hT 10⟩
 simp (decide := true) only [Fact.G, hf.size, reduceIte, s1, s3, s7, s8, s9] at hKp
 replace hf := hf1; clear hT hf1 s1 s3 s7 s8 s9
 obtain ⟨s1, s3, s7, s8, s9, s10⟩ := hKp
 refine nx (hK4 _ _ ?_)
 refine Fact.sq fun K5 hK5 => ?_
 refine Fact.cond_s s10 (fun hq => ?_) (fun hq => ?_)
 · (
 have hlt : i < ss.length := by have h9 := of_decide_eq_true hq; omega
 have HQ := Lib.hid hq; clear hq
 obtain ⟨s, his⟩ : ∃ s, ss[i]? = some s := ⟨_, List.getElem?_eq_getElem hlt⟩
 obtain ⟨b, off, av, rfl, hat⟩ := (hr0.later hb).at_ his
 have d0 := hat.c0; have d1 := hat.c1; have d2 := hat.c2
 obtain ⟨A2, c2, rfl, _⟩ := hat.arcs.form
 have hal := HF.out s (List.mem_of_getElem? his)
 have hst := arcCount_step his
 have hac := arcCount_le HF.out i
 have HS := Lib.hid his; have HST := Lib.hid hst; clear his hst hat
 refine wp_skip ?_
 refine nx (hK5 _ _ ?_)
 refine Fact.sq fun K6 hK6 => ?_
 refine wp_block ?_
 refine Fact.sq fun K7 hK7 => ?_
 refine rg ?_
 have b11 := hf.b 11
 have b12 := hf.b 12
 have b5 := hf.b 5
 refine fp fun K Z => ?_
 go_simp
 try rw [if_pos (by omega)]
 apply Z.out; clear Z K
 refine fp fun K Z => ?_
 go_simp
 apply Z.out; clear Z K
 refine fp fun K Z => ?_
 go_simp
 apply Z.out; clear Z K
 refine fp fun K Z => ?_
 go_simp
 apply Z.out; clear Z K
 refine Fact.z hf fun fr1 hf1 hT => ?_
 have hKp : _ ∧ _ ∧ _ ∧ _ ∧ _ ∧ _ := ⟨hT 1, hT 3, hT 5, hT 7, hT 8, hT 9⟩
 simp (decide := true) only [Fact.G, hf.size, reduceIte, s1, s3, s7, s8, s9] at hKp
 replace hf := hf1; clear hT hf1 s1 s3 s7 s8 s9 s10 b11 b12 b5
 obtain ⟨s1, s3, s5, s7, s8, s9⟩ := hKp
 obtain ⟨W5, hW5⟩ : ∃ W0, wr.alloc (.cells #[.slice A2 s.arcs.length c2, .bool s.final, .int .u64 s.out] 64) = W0 := ⟨_, rfl⟩
 try rw [hW5]
 obtain ⟨hb5, x0, -, -, -, -⟩ := box3 hW5
 clear hW5
 clear d0 d1 d2
 refine nx (hK7 _ _ ?_)
 refine rg ?_
 have b13 := hf.b 13
 have b14 := hf.b 14
 have b15 := hf.b 15
 have b16 := hf.b 16
 have b17 := hf.b 17
 refine fp fun K Z => ?_
 go_simp
 apply Z.out; clear Z K
 refine fp fun K Z => ?_
 go_simp
 apply Z.out; clear Z K
 refine fp fun K Z => ?_
 go_simp
 apply Z.out; clear Z K
 refine fp fun K Z => ?_
 go_simp
 apply Z.out; clear Z K
 refine fp fun K Z => ?_
 go_simp
 try simp (disch := omega) only [Fact.W]
 rw [show ((arcCount (ss.take i) : Nat) : Int) + (s.arcs.length : Int) = ((arcCount (ss.take (i + 1)) : Nat) : Int) by rw [HST.out]; omega]
 apply Z.out; clear Z K
 refine fp fun K Z => ?_
 go_simp
 apply Z.out; clear Z K
 refine Fact.z hf fun fr1 hf1 hT => ?_
 have hKp : _ ∧ _ ∧ _ ∧ _ ∧ _ := ⟨hT 1, hT 3, hT 7, hT 8, hT 9⟩
 simp (decide := true) only [Fact.G, hf.size, reduceIte, s1, s7, s8, s9] at hKp
 replace hf := hf1; clear hT hf1 s1 s3 s5 s7 s8 s9 b13 b14 b15 b16 b17
 obtain ⟨s1, s3, s7, s8, s9⟩ := hKp
 refine Fact.block_normal ?_
 refine nx (hK6 _ _ ?_)
 refine rg ?_
 have b18 := hf.b 18
 refine fp fun K Z => ?_
 go_simp
 try simp (disch := omega) only [Fact.W]
 apply Z.out; clear Z K
 refine fp fun K Z => ?_
 go_simp
 apply Z.out; clear Z K
 refine Fact.z hf fun fr1 hf1 hT => ?_
 have hKp : _ ∧ _ ∧ _ ∧ _ ∧ _ := ⟨hT 1, hT 3, hT 7, hT 8, hT 9⟩
 simp (decide := true) only [Fact.G, hf.size, reduceIte, s1, s3, s7, s8] at hKp
 replace hf := hf1; clear hT hf1 s1 s3 s7 s8 s9 b18
 obtain ⟨s1, s3, s7, s8, s9⟩ := hKp
 refine Fact.then_normal ?_
 exact ⟨_, by have := HK.out; omega, i + 1, rfl, by omega, hf, s1, s3, s7, s8, by rw [s9]; rfl, hb.trans (hb5.mono hb.size)⟩)
 · (
 have hie : i = ss.length := by have h9 := of_decide_eq_false hq; omega
 have HIE := Lib.hid hie; clear hie hq
 have e0 := cL hb c0
 refine wp_exit ?_
 refine Fact.then_exit ?_
 refine Fact.then_exit ?_
 refine Fact.block_exit ?_
 refine nx (hK2 _ _ ?_)
 refine Fact.sq fun K8 hK8 => ?_
 refine rg ?_
 have b19 := hf.b 19
 have b20 := hf.b 20
 have b21 := hf.b 21
 have b22 := hf.b 22
 refine fp fun K Z => ?_
 go_simp
 apply Z.out; clear Z K
 refine fp fun K Z => ?_
 go_simp
 apply Z.out; clear Z K
 refine fp fun K Z => ?_
 go_simp
 apply Z.out; clear Z K
 refine fp fun K Z => ?_
 go_simp
 apply Z.out; clear Z K
 refine fp fun K Z => ?_
 go_simp
 apply Z.out; clear Z K
 refine fp fun K Z => ?_
 go_simp
 apply Z.out; clear Z K
 refine Fact.z hf fun fr1 hf1 hT => ?_
 have hKp : _ ∧ _ := ⟨hT 2, hT 3⟩
 simp (decide := true) only [Fact.G, hf.size, reduceIte] at hKp
 replace hf := hf1; clear hT hf1 s1 s3 s7 s8 s9 s10 b19 b20 b21 b22
 obtain ⟨s2, s3⟩ := hKp
 refine nx (hK8 _ _ ?_)
 refine wp_ret ?_
 refine Fact.ret2 rfl hf s2 s3 ⟨?_, hb0.trans (hb.mono hb0.size)⟩
 rw [HIE.out, List.take_length]))
end Dw
end Go.Proofs.YtdkbgbdgmihlmaaDoor
