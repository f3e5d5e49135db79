/- Dawg: the document's Size, formed. -/
import Derived.Test.YtgjfhedgdbbinaaDoorDFormed
import Derived.Test.YtgjfhedgdbbinaaDoorDAlike
import Derived.Test.YtgjfhedgdbbinaaDoorTools
namespace Go.Proofs.YtgjfhedgdbbinaaDoor
open Go.RowKit
set_option linter.unusedSimpArgs false
set_option linter.unusedVariables false
set_option linter.unnecessarySimpa false
namespace Dw

def lastB (l : List Arc) : Nat → Int
  | 0 => -1
  | k + 1 => match l[k]? with | some a => (a.byte : Int) | none => -1
theorem lastB_next {l : List Arc} {k : Nat} {a : Arc} (h : l[k]? = some a) : lastB l (k + 1) = (a.byte : Int) := by simp only [lastB, h]
theorem lastB_prev {l : List Arc} {k : Nat} {a : Arc} (h : l[k - 1]? = some a) (h0 : 0 < k) : lastB l k = (a.byte : Int) := by
  obtain ⟨j, rfl⟩ : ∃ j, k = j + 1 := ⟨k - 1, by omega⟩
  exact lastB_next h
theorem arc_cases2 (t i b l : Int) (k : Nat) : t < 0 ∨ (0 ≤ t ∧ i ≤ t) ∨ (0 ≤ t ∧ t < i ∧ k = 0) ∨ (0 ≤ t ∧ t < i ∧ 0 < k ∧ b ≤ l) ∨ (0 ≤ t ∧ t < i ∧ 0 < k ∧ l < b) := by omega
set_option maxHeartbeats 4000000 in
set_option maxRecDepth 100000 in
theorem rsize23 (w : World) (sv : Value) (init : Nat) (ss : List State) (hrs : RS w sv ss) (hok : ∀ s ∈ ss, okS s) (hlen : ss.length ≤ 1000000) (hfew : ∀ s ∈ ss, s.arcs.length ≤ 1000) : Calls Tryd.prog 23 #[.agg #[sv, .int .u64 init]] w fun e w1 => e = .returned (.tuple #[.int .i64 ss.length, .int .i64 (arcCount ss : Nat)]) ∧ Below w.heap.size w w1 := by
 refine calls_of_wp Tryd.func23 rfl ?_
 refine Fact.en 26 fun fr hf hT => ?_
 have s0 := hT 0 _ rfl
 clear hT
 obtain ⟨A, cc, rfl, hcc⟩ := hrs.form
 have HF := Lib.hid hfew; clear hfew hok
 refine Fact.sq fun K1 hK1 => ?_
 refine rg ?_
 refine fp fun K Z => ?_
 go_simp
 apply Z.out; clear Z K
 refine fp fun K Z => ?_
 go_simp
 apply Z.out; clear Z K
 refine fp fun K Z => ?_
 go_simp
 apply Z.out; clear Z K
 refine Fact.z hf fun fr1 hf1 hT => ?_
 have hKp := hT 1
 simp (decide := true) only [Fact.G, hf.size, reduceIte] at hKp
 replace hf := hf1; clear hT hf1 s0
 have s1 := hKp; clear hKp
 obtain ⟨W0, hW0⟩ : ∃ W0, w.alloc (.cells #[.slice A ss.length cc, .int .u64 init] 33) = W0 := ⟨_, rfl⟩
 try rw [hW0]
 obtain ⟨hb0, c0, c1, -, -⟩ := box2 hW0
 clear hW0
 have hr0 := hrs.later hb0
 clear hrs
 refine nx (hK1 _ _ ?_)
 refine Fact.sq fun K2 hK2 => ?_
 refine rg ?_
 refine fp fun K Z => ?_
 go_simp
 apply Z.out; clear Z K
 refine Fact.z hf fun fr1 hf1 hT => ?_
 have hKp : _ ∧ _ := ⟨hT 1, hT 4⟩
 simp (decide := true) only [Fact.G, hf.size, reduceIte, s1] at hKp
 replace hf := hf1; clear hT hf1 s1
 obtain ⟨s1, s4⟩ := hKp
 refine nx (hK2 _ _ ?_)
 refine Fact.sq fun K3 hK3 => ?_
 refine Fact.sq fun K4 hK4 => ?_
 refine rg ?_
 refine fp fun K Z => ?_
 go_simp
 apply Z.out; clear Z K
 refine Fact.z hf fun fr1 hf1 hT => ?_
 have hKp : _ ∧ _ ∧ _ := ⟨hT 1, hT 4, hT 5⟩
 simp (decide := true) only [Fact.G, hf.size, reduceIte, s1, s4] at hKp
 replace hf := hf1; clear hT hf1 s1 s4
 obtain ⟨s1, s4, s5⟩ := hKp
 refine nx (hK4 _ _ ?_)
 refine wp_block ?_
 refine wp_loop_ghost (fun gk fr wr => ∃ (i : Nat), gk = ss.length - i ∧ i ≤ ss.length ∧ Fact.Fr 26 fr ∧ fr.tmps[1]? = some (.pointer (some ⟨w.heap.size, 0, none⟩)) ∧ fr.tmps[4]? = some (.int .i64 (arcCount (ss.take i) : Nat)) ∧ fr.tmps[5]? = some (.int .i64 i) ∧ Below W0.heap.size W0 wr) (ss.length) ?_ ?_
 · (
 exact ⟨0, rfl, Nat.zero_le _, hf, s1, s4, s5, Below.refl _ _⟩)
 · (
 clear hf s1 s4 s5
 rintro gk fr wr ⟨i, hk, hi, hf, s1, s4, s5, hb⟩
 have HK := Lib.hid hk; clear hk
 have e0 := cL hb c0
 refine Fact.sq fun K5 hK5 => ?_
 refine Fact.sq fun K6 hK6 => ?_
 refine rg ?_
 have b6 := hf.b 6
 have b7 := hf.b 7
 have b8 := hf.b 8
 have b9 := hf.b 9
 refine fp fun K Z => ?_
 go_simp
 apply Z.out; clear Z K
 refine fp fun K Z => ?_
 go_simp
 apply Z.out; clear Z K
 refine fp fun K Z => ?_
 go_simp
 apply Z.out; clear Z K
 refine fp fun K Z => ?_
 go_simp
 apply Z.out; clear Z K
 refine fp fun K Z => ?_
 go_simp
 apply Z.out; clear Z K
 refine Fact.z hf fun fr1 hf1 hT => ?_
 have hKp : _ ∧ _ ∧ _ ∧ _ := ⟨hT 1, hT 4, hT 5, hT 10⟩
 simp (decide := true) only [Fact.G, hf.size, reduceIte, s1, s4, s5] at hKp
 replace hf := hf1; clear hT hf1 s1 s4 s5 b6 b7 b8 b9
 obtain ⟨s1, s4, s5, s10⟩ := hKp
 refine nx (hK6 _ _ ?_)
 refine Fact.cond_s s10 (fun hq => ?_) (fun hq => ?_)
 · (
 have hlt : i < ss.length := by have h9 := of_decide_eq_true hq; omega
 have HQ := Lib.hid hq; clear hq
 obtain ⟨s, his⟩ : ∃ s, ss[i]? = some s := ⟨_, List.getElem?_eq_getElem hlt⟩
 obtain ⟨b, off, av, rfl, hat⟩ := (hr0.later hb).at_ his
 have d0 := hat.c0
 obtain ⟨A2, c2, rfl, _⟩ := hat.arcs.form
 have hal := HF.out s (List.mem_of_getElem? his)
 have hst := arcCount_step his
 have hac := arcCount_le HF.out i
 have HST := Lib.hid hst; clear his hst hat
 refine wp_skip ?_
 refine nx (hK5 _ _ ?_)
 refine Fact.sq fun K7 hK7 => ?_
 refine wp_block ?_
 refine rg ?_
 have b13 := hf.b 13
 have b14 := hf.b 14
 have b15 := hf.b 15
 have b16 := hf.b 16
 have b17 := hf.b 17
 have b18 := hf.b 18
 have b19 := hf.b 19
 have b20 := hf.b 20
 have b21 := hf.b 21
 refine fp fun K Z => ?_
 go_simp
 apply Z.out; clear Z K
 refine fp fun K Z => ?_
 go_simp
 apply Z.out; clear Z K
 refine fp fun K Z => ?_
 go_simp
 apply Z.out; clear Z K
 refine fp fun K Z => ?_
 go_simp
 apply Z.out; clear Z K
 refine fp fun K Z => ?_
 go_simp
 try rw [if_pos (by omega)]
 apply Z.out; clear Z K
 refine fp fun K Z => ?_
 go_simp
 apply Z.out; clear Z K
 refine fp fun K Z => ?_
 go_simp
 apply Z.out; clear Z K
 refine fp fun K Z => ?_
 go_simp
 apply Z.out; clear Z K
 refine fp fun K Z => ?_
 go_simp
 try simp (disch := omega) only [Fact.W]
 rw [show ((arcCount (ss.take i) : Nat) : Int) + (s.arcs.length : Int) = ((arcCount (ss.take (i + 1)) : Nat) : Int) by rw [HST.out]; omega]
 apply Z.out; clear Z K
 refine fp fun K Z => ?_
 go_simp
 apply Z.out; clear Z K
 refine Fact.z hf fun fr1 hf1 hT => ?_
 have hKp : _ ∧ _ ∧ _ := ⟨hT 1, hT 4, hT 5⟩
 simp (decide := true) only [Fact.G, hf.size, reduceIte, s1, s5] at hKp
 replace hf := hf1; clear hT hf1 s1 s4 s5 s10 b13 b14 b15 b16 b17 b18 b19 b20 b21
 obtain ⟨s1, s4, s5⟩ := hKp
 refine Fact.block_normal ?_
 refine nx (hK7 _ _ ?_)
 refine rg ?_
 have b11 := hf.b 11
 have b12 := hf.b 12
 refine fp fun K Z => ?_
 go_simp
 apply Z.out; clear Z K
 refine fp fun K Z => ?_
 go_simp
 try simp (disch := omega) only [Fact.W]
 apply Z.out; clear Z K
 refine fp fun K Z => ?_
 go_simp
 apply Z.out; clear Z K
 refine Fact.z hf fun fr1 hf1 hT => ?_
 have hKp : _ ∧ _ ∧ _ := ⟨hT 1, hT 4, hT 5⟩
 simp (decide := true) only [Fact.G, hf.size, reduceIte, s1, s4] at hKp
 replace hf := hf1; clear hT hf1 s1 s4 s5 b11 b12
 obtain ⟨s1, s4, s5⟩ := hKp
 refine Fact.then_normal ?_
 exact ⟨_, by have := HK.out; omega, i + 1, rfl, by omega, hf, s1, s4, by rw [s5]; rfl, hb⟩)
 · (
 have hie : i = ss.length := by have h9 := of_decide_eq_false hq; omega
 have HIE := Lib.hid hie; clear hie hq
 refine wp_exit ?_
 refine Fact.then_exit ?_
 refine Fact.then_exit ?_
 refine Fact.block_exit ?_
 refine nx (hK3 _ _ ?_)
 refine Fact.sq fun K8 hK8 => ?_
 refine rg ?_
 have b22 := hf.b 22
 have b23 := hf.b 23
 have b24 := hf.b 24
 have b25 := hf.b 25
 refine fp fun K Z => ?_
 go_simp
 apply Z.out; clear Z K
 refine fp fun K Z => ?_
 go_simp
 apply Z.out; clear Z K
 refine fp fun K Z => ?_
 go_simp
 apply Z.out; clear Z K
 refine fp fun K Z => ?_
 go_simp
 apply Z.out; clear Z K
 refine fp fun K Z => ?_
 go_simp
 apply Z.out; clear Z K
 refine fp fun K Z => ?_
 go_simp
 apply Z.out; clear Z K
 refine Fact.z hf fun fr1 hf1 hT => ?_
 have hKp : _ ∧ _ := ⟨hT 2, hT 3⟩
 simp (decide := true) only [Fact.G, hf.size, reduceIte] at hKp
 replace hf := hf1; clear hT hf1 s1 s4 s5 s10 b22 b23 b24 b25
 obtain ⟨s2, s3⟩ := hKp
 refine nx (hK8 _ _ ?_)
 refine wp_ret ?_
 refine Fact.ret2 rfl hf s2 s3 ⟨?_, hb0.trans (hb.mono hb0.size)⟩
 rw [HIE.out, List.take_length]))
set_option maxHeartbeats 4000000 in
set_option maxRecDepth 100000 in
theorem rformed42 (w : World) (sv : Value) (init : Nat) (ss : List State) (hrs : RS w sv ss) (hok : ∀ s ∈ ss, okS s) (hlen : ss.length ≤ 1000000) : Calls Tryd.prog 42 #[.agg #[sv, .int .u64 init]] w fun e w1 => e = .returned (.bool (formedF ss)) ∧ Below w.heap.size w w1 := by
 refine calls_of_wp Tryd.func42 rfl ?_
 refine Fact.en 74 fun fr hf hT => ?_
 have s0 := hT 0 _ rfl
 clear hT
 obtain ⟨A, cc, rfl, hcc⟩ := hrs.form
 have HO := Lib.hid hok; clear hok
 refine Fact.sq fun K1 hK1 => ?_
 refine rg ?_
 refine fp fun K Z => ?_
 go_simp
 apply Z.out; clear Z K
 refine fp fun K Z => ?_
 go_simp
 apply Z.out; clear Z K
 refine Fact.z hf fun fr1 hf1 hT => ?_
 have hKp := hT 1
 simp (decide := true) only [Fact.G, hf.size, reduceIte] at hKp
 replace hf := hf1; clear hT hf1 s0
 have s1 := hKp; clear hKp
 obtain ⟨W0, hW0⟩ : ∃ W0, w.alloc (.cells #[.slice A ss.length cc, .int .u64 init] 33) = W0 := ⟨_, rfl⟩
 try rw [hW0]
 obtain ⟨hb0, c0, c1, -, -⟩ := box2 hW0
 clear hW0
 have hr0 := hrs.later hb0
 clear hrs
 refine nx (hK1 _ _ ?_)
 refine Fact.sq fun K2 hK2 => ?_
 refine Fact.sq fun K3 hK3 => ?_
 refine rg ?_
 refine fp fun K Z => ?_
 go_simp
 apply Z.out; clear Z K
 refine Fact.z hf fun fr1 hf1 hT => ?_
 have hKp : _ ∧ _ := ⟨hT 1, hT 3⟩
 simp (decide := true) only [Fact.G, hf.size, reduceIte, s1] at hKp
 replace hf := hf1; clear hT hf1 s1
 obtain ⟨s1, s3⟩ := hKp
 refine nx (hK3 _ _ ?_)
 refine wp_block ?_
 refine wp_loop_ghost (fun gk fr wr => ∃ (i : Nat), gk = ss.length - i ∧ i ≤ ss.length ∧ Fact.Fr 74 fr ∧ fr.tmps[1]? = some (.pointer (some ⟨w.heap.size, 0, none⟩)) ∧ fr.tmps[3]? = some (.int .i64 i) ∧ formedL 0 ss = formedL i (ss.drop i) ∧ Below W0.heap.size W0 wr) (ss.length) ?_ ?_
 · (
 exact ⟨0, rfl, Nat.zero_le _, hf, s1, s3, rfl, Below.refl _ _⟩)
 · (
 clear hf s1 s3
 rintro gk fr wr ⟨i, hk, hi, hf, s1, s3, hfm, hb⟩
 have HK := Lib.hid hk; have HM := Lib.hid hfm; clear hk hfm
 have e0 := cL hb c0
 refine Fact.sq fun K4 hK4 => ?_
 refine Fact.sq fun K5 hK5 => ?_
 refine rg ?_
 have b6 := hf.b 6
 have b7 := hf.b 7
 have b8 := hf.b 8
 have b9 := hf.b 9
 refine fp fun K Z => ?_
 go_simp
 apply Z.out; clear Z K
 refine fp fun K Z => ?_
 go_simp
 apply Z.out; clear Z K
 refine fp fun K Z => ?_
 go_simp
 apply Z.out; clear Z K
 refine fp fun K Z => ?_
 go_simp
 apply Z.out; clear Z K
 refine fp fun K Z => ?_
 go_simp
 apply Z.out; clear Z K
 refine Fact.z hf fun fr1 hf1 hT => ?_
 have hKp : _ ∧ _ ∧ _ := ⟨hT 1, hT 3, hT 10⟩
 simp (decide := true) only [Fact.G, hf.size, reduceIte, s1, s3] at hKp
 replace hf := hf1; clear hT hf1 s1 s3 b6 b7 b8 b9
 obtain ⟨s1, s3, s10⟩ := hKp
 refine nx (hK5 _ _ ?_)
 refine Fact.cond_s s10 (fun hq => ?_) (fun hq => ?_)
 · (
 have hlt : i < ss.length := by have h9 := of_decide_eq_true hq; omega
 have HQ := Lib.hid hq; clear hq
 obtain ⟨s, his⟩ : ∃ s, ss[i]? = some s := ⟨_, List.getElem?_eq_getElem hlt⟩
 obtain ⟨b, off, av, rfl, hat⟩ := (hr0.later hb).at_ his
 have d0 := hat.c0; have d1 := hat.c1; have d2 := hat.c2
 have hra := hat.arcs
 obtain ⟨A2, c2, rfl, _⟩ := hat.arcs.form
 have hos := HO.out s (List.mem_of_getElem? his)
 have hst := formedL_step his
 have HS := Lib.hid his; have HST := Lib.hid hst; clear his hst hat
 have hal := hos.2.1
 refine wp_skip ?_
 refine nx (hK4 _ _ ?_)
 refine Fact.sq fun K6 hK6 => ?_
 refine wp_block ?_
 refine Fact.sq fun K7 hK7 => ?_
 refine rg ?_
 have b13 := hf.b 13
 have b14 := hf.b 14
 have b15 := hf.b 15
 have b16 := hf.b 16
 have b17 := hf.b 17
 have b4 := hf.b 4
 refine fp fun K Z => ?_
 go_simp
 apply Z.out; clear Z K
 refine fp fun K Z => ?_
 go_simp
 apply Z.out; clear Z K
 refine fp fun K Z => ?_
 go_simp
 apply Z.out; clear Z K
 refine fp fun K Z => ?_
 go_simp
 try rw [if_pos (by omega)]
 apply Z.out; clear Z K
 refine fp fun K Z => ?_
 go_simp
 apply Z.out; clear Z K
 refine fp fun K Z => ?_
 go_simp
 apply Z.out; clear Z K
 refine fp fun K Z => ?_
 go_simp
 apply Z.out; clear Z K
 refine Fact.z hf fun fr1 hf1 hT => ?_
 have hKp : _ ∧ _ ∧ _ := ⟨hT 1, hT 3, hT 4⟩
 simp (decide := true) only [Fact.G, hf.size, reduceIte, s1, s3] at hKp
 replace hf := hf1; clear hT hf1 s1 s3 s10 b13 b14 b15 b16 b17 b4
 obtain ⟨s1, s3, s4⟩ := hKp
 obtain ⟨W5, hW5⟩ : ∃ W0, wr.alloc (.cells #[.slice A2 s.arcs.length c2, .bool s.final, .int .u64 s.out] 61) = W0 := ⟨_, rfl⟩
 try rw [hW5]
 obtain ⟨hb5, x0, x1, x2, -, -⟩ := box3 hW5
 clear hW5
 clear d0 d1 d2
 have hra5 := hra.later hb5
 clear hra
 replace e0 := cL hb5 e0
 have hbz0 := hb0.trans ((hb.trans (hb5.mono hb.size)).mono hb0.size)
 refine nx (hK7 _ _ ?_)
 refine Fact.seq_meet (fun fr wq => Fact.Fr 74 fr ∧ fr.tmps[1]? = some (.pointer (some ⟨w.heap.size, 0, none⟩)) ∧ fr.tmps[3]? = some (.int .i64 i) ∧ fr.tmps[4]? = some (.pointer (some ⟨wr.heap.size, 0, none⟩)) ∧ wq = W5 ∧ (s.final || decide (s.out = 0)) = true) ?_ ?_
 · (
 rcases hfin : s.final with _ | _
 · (
 have HFI := Lib.hid hfin; clear hfin
 have q1 := HFI.out
 refine Fact.sq fun K8 hK8 => ?_
 refine rg ?_
 have b18 := hf.b 18
 have b19 := hf.b 19
 have b20 := hf.b 20
 have b21 := hf.b 21
 have b22 := hf.b 22
 have b23 := hf.b 23
 have b24 := hf.b 24
 refine fp fun K Z => ?_
 go_simp
 apply Z.out; clear Z K
 refine fp fun K Z => ?_
 go_simp
 apply Z.out; clear Z K
 refine fp fun K Z => ?_
 go_simp
 apply Z.out; clear Z K
 refine fp fun K Z => ?_
 go_simp
 apply Z.out; clear Z K
 refine og 3 21 true ?_ fun K Z => ?_
 · (
 simp (decide := true) only [Fact.G, reduceIte, hf.size, q1, Fact.N])
 go_simp
 apply Z.out; clear Z K
 refine og 3 21 true ?_ fun K Z => ?_
 · (
 simp (decide := true) only [Fact.G, reduceIte, hf.size, q1, Fact.N])
 go_simp
 apply Z.out; clear Z K
 refine og 3 21 true ?_ fun K Z => ?_
 · (
 simp (decide := true) only [Fact.G, reduceIte, hf.size, q1, Fact.N])
 go_simp
 apply Z.out; clear Z K
 refine fp fun K Z => ?_
 go_simp
 apply Z.out; clear Z K
 refine Fact.z hf fun fr1 hf1 hT => ?_
 have hKp : _ ∧ _ ∧ _ ∧ _ := ⟨hT 1, hT 3, hT 4, hT 25⟩
 simp (decide := true) only [Fact.G, hf.size, reduceIte, s1, s3, s4] at hKp
 replace hf := hf1; clear hT hf1 s1 s3 s4 b18 b19 b20 b21 b22 b23 b24
 obtain ⟨s1, s3, s4, s25⟩ := hKp
 refine nx (hK8 _ _ ?_)
 refine Fact.cond_s s25 (fun hqo => ?_) (fun hqo => ?_)
 · (
 have ho0 : s.out ≠ 0 := by simpa using hqo
 have HO0 := Lib.hid ho0; clear ho0 hqo
 have hbad : formedL 0 ss = false := by rw [HM.out, HST.out, HFI.out, decide_eq_false HO0.out]; rfl
 have HBAD := Lib.hid hbad; clear hbad
 have hbz := hbz0
 refine Fact.sq fun K9 hK9 => ?_
 refine rg ?_
 refine fp fun K Z => ?_
 go_simp
 apply Z.out; clear Z K
 refine Fact.z hf fun fr1 hf1 hT => ?_
 have hKp := hT 2
 simp (decide := true) only [Fact.G, hf.size, reduceIte] at hKp
 replace hf := hf1; clear hT hf1 s1 s3 s4 s25
 have s2 := hKp; clear hKp
 refine nx (hK9 _ _ ?_)
 refine wp_ret ?_
 refine Fact.then_ret ?_
 refine Fact.block_ret ?_
 refine Fact.then_ret ?_
 refine Fact.then_ret ?_
 refine Fact.block_ret ?_
 refine Fact.then_ret ?_
 exact Fact.ret1 rfl hf s2 ⟨by rw [formedF, HBAD.out]; rfl, hbz⟩)
 · (
 have ho0 : s.out = 0 := by simpa using hqo
 have HO0 := Lib.hid ho0; clear ho0 hqo
 have hfo : (s.final || decide (s.out = 0)) = true := by rw [HFI.out, decide_eq_true HO0.out]; rfl
 have HFO := Lib.hid hfo; clear hfo
 refine wp_skip ?_
 refine Fact.then_normal ?_
 exact ⟨hf, s1, s3, s4, rfl, (by have h9 := HFO.out; rw [HFI.out] at h9; exact h9)⟩))
 · (
 have HFI := Lib.hid hfin; clear hfin
 have q1 := HFI.out
 refine Fact.sq fun K10 hK10 => ?_
 refine rg ?_
 have b18 := hf.b 18
 have b19 := hf.b 19
 have b20 := hf.b 20
 have b21 := hf.b 21
 have b22 := hf.b 22
 have b23 := hf.b 23
 have b24 := hf.b 24
 refine fp fun K Z => ?_
 go_simp
 apply Z.out; clear Z K
 refine fp fun K Z => ?_
 go_simp
 apply Z.out; clear Z K
 refine fp fun K Z => ?_
 go_simp
 apply Z.out; clear Z K
 refine fp fun K Z => ?_
 go_simp
 apply Z.out; clear Z K
 refine sk 3 21 true ?_ ?_
 · (
 simp (decide := true) only [Fact.G, reduceIte, hf.size, q1, Fact.N])
 refine sk 3 21 true ?_ ?_
 · (
 simp (decide := true) only [Fact.G, reduceIte, hf.size, q1, Fact.N])
 refine sk 3 21 true ?_ ?_
 · (
 simp (decide := true) only [Fact.G, reduceIte, hf.size, q1, Fact.N])
 refine fp fun K Z => ?_
 go_simp
 apply Z.out; clear Z K
 refine Fact.z hf fun fr1 hf1 hT => ?_
 have hKp : _ ∧ _ ∧ _ ∧ _ := ⟨hT 1, hT 3, hT 4, hT 25⟩
 simp (decide := true) only [Fact.G, hf.size, reduceIte, s1, s3, s4] at hKp
 replace hf := hf1; clear hT hf1 s1 s3 s4 b18 b19 b20 b21 b22 b23 b24
 obtain ⟨s1, s3, s4, s25⟩ := hKp
 refine nx (hK10 _ _ ?_)
 have hfo : (s.final || decide (s.out = 0)) = true := by rw [HFI.out]; rfl
 have HFO := Lib.hid hfo; clear hfo
 refine Fact.cond_f s25 ?_
 refine wp_skip ?_
 refine Fact.then_normal ?_
 exact ⟨hf, s1, s3, s4, rfl, (by have h9 := HFO.out; rw [HFI.out] at h9; exact h9)⟩))
 · (
 clear hf s1 s3 s4
 rintro fr wq ⟨hf, s1, s3, s4, hw, hfo⟩
 subst wq
 have HFO := Lib.hid hfo; clear hfo
 refine Fact.sq fun K11 hK11 => ?_
 refine rg ?_
 refine fp fun K Z => ?_
 go_simp
 apply Z.out; clear Z K
 refine Fact.z hf fun fr1 hf1 hT => ?_
 have hKp : _ ∧ _ ∧ _ ∧ _ := ⟨hT 1, hT 3, hT 4, hT 5⟩
 simp (decide := true) only [Fact.G, hf.size, reduceIte, s1, s3, s4] at hKp
 replace hf := hf1; clear hT hf1 s1 s3 s4
 obtain ⟨s1, s3, s4, s5⟩ := hKp
 refine nx (hK11 _ _ ?_)
 refine wp_block ?_
 refine wp_loop_ghost (fun gk2 fr wr2 => ∃ (k : Nat), gk2 = s.arcs.length - k ∧ k ≤ s.arcs.length ∧ Fact.Fr 74 fr ∧ fr.tmps[1]? = some (.pointer (some ⟨w.heap.size, 0, none⟩)) ∧ fr.tmps[3]? = some (.int .i64 i) ∧ fr.tmps[4]? = some (.pointer (some ⟨wr.heap.size, 0, none⟩)) ∧ fr.tmps[5]? = some (.int .i64 k) ∧ okArcs i (-1) s.arcs = okArcs i (lastB s.arcs k) (s.arcs.drop k) ∧ Below W5.heap.size W5 wr2) (s.arcs.length) ?_ ?_
 · (
 exact ⟨0, rfl, Nat.zero_le _, hf, s1, s3, s4, s5, rfl, Below.refl _ _⟩)
 · (
 clear hf s1 s3 s4 s5
 rintro gk2 fr wr2 ⟨k, hk2, hki, hf, s1, s3, s4, s5, hoa, hb6⟩
 have HK2 := Lib.hid hk2; have HOA := Lib.hid hoa; clear hk2 hoa
 replace x0 := cL hb6 x0
 refine Fact.sq fun K12 hK12 => ?_
 refine Fact.sq fun K13 hK13 => ?_
 refine rg ?_
 have b26 := hf.b 26
 have b27 := hf.b 27
 have b28 := hf.b 28
 have b29 := hf.b 29
 refine fp fun K Z => ?_
 go_simp
 apply Z.out; clear Z K
 refine fp fun K Z => ?_
 go_simp
 apply Z.out; clear Z K
 refine fp fun K Z => ?_
 go_simp
 apply Z.out; clear Z K
 refine fp fun K Z => ?_
 go_simp
 apply Z.out; clear Z K
 refine fp fun K Z => ?_
 go_simp
 apply Z.out; clear Z K
 refine Fact.z hf fun fr1 hf1 hT => ?_
 have hKp : _ ∧ _ ∧ _ ∧ _ ∧ _ := ⟨hT 1, hT 3, hT 4, hT 5, hT 30⟩
 simp (decide := true) only [Fact.G, hf.size, reduceIte, s1, s3, s4, s5] at hKp
 replace hf := hf1; clear hT hf1 s1 s3 s4 s5 b26 b27 b28 b29
 obtain ⟨s1, s3, s4, s5, s30⟩ := hKp
 refine nx (hK13 _ _ ?_)
 refine Fact.cond_s s30 (fun hq2 => ?_) (fun hq2 => ?_)
 · (
 have hklt : k < s.arcs.length := by have h9 := of_decide_eq_true hq2; omega
 have HQ2 := Lib.hid hq2; clear hq2
 obtain ⟨a, hka⟩ : ∃ a, s.arcs[k]? = some a := ⟨_, List.getElem?_eq_getElem hklt⟩
 obtain ⟨b3, off3, rfl, hbl, y0, y1, y2⟩ := (hra5.later hb6).at' hka
 have haa := hos.2.2 a (List.mem_of_getElem? hka)
 have hat := okArcs_step (i := i) (last := lastB s.arcs k) hka
 have hab := haa.1
 have hln := lastB_next hka
 have HLN := Lib.hid hln; clear hln
 rcases arc_cases2 a.to (i : Int) (a.byte : Int) (lastB s.arcs k) k with hc | hc | hc | hc | hc
 · (
 have q2 : decide (a.to < 0) = true := decide_eq_true hc
 have HC := Lib.hid hc; have HKA := Lib.hid hka; have HAT := Lib.hid hat; clear hc hka hat
 refine wp_skip ?_
 refine nx (hK12 _ _ ?_)
 refine Fact.sq fun K14 hK14 => ?_
 refine wp_block ?_
 refine Fact.sq fun K15 hK15 => ?_
 refine Stab.tb 74 fun hok => ?_
 apply Stab.tq 0 _ hf hok
 · (
 intro fr1 w1 hh hd hk K Z
 have s4 := Stab.O hh s4
 clear hd
 go_simp
 exact Stab.k Z)
 apply Stab.tq 1 _ hf hok
 · (
 intro fr1 w1 hh hd hk K Z
 have s33 := Stab.v 0 0 hd hk []
 clear hd
 replace x0 := cL hh.ext x0
 replace y0 := cL hh.ext y0
 replace y2 := cL hh.ext y2
 go_simp
 exact Stab.k Z)
 refine Stab.mO 2 s5 hf hok ?_
 apply Stab.tq 3 _ hf hok
 · (
 intro fr1 w1 hh hd hk K Z
 have s34 := Stab.v 1 1 hd hk []
 have s35 := Stab.v 2 0 hd hk []
 clear hd
 go_simp
 try rw [if_pos (by omega)]
 exact Stab.k Z)
 apply Stab.tq 4 _ hf hok
 · (
 intro fr1 w1 hh hd hk K Z
 have s36 := Stab.v 3 0 hd hk []
 clear hd
 go_simp
 exact Stab.k Z)
 apply Stab.tq 5 _ hf hok
 · (
 intro fr1 w1 hh hd hk K Z
 have s37 := Stab.v 4 0 hd hk []
 clear hd
 replace x0 := cL hh.ext x0
 replace y0 := cL hh.ext y0
 replace y2 := cL hh.ext y2
 go_simp
 exact Stab.k Z)
 apply Stab.tq 6 _ hf hok
 · (
 intro fr1 w1 hh hd hk K Z
 have s38 := Stab.v 5 0 hd hk []
 clear hd
 go_simp
 exact Stab.k Z)
 refine Stab.mN 7 6 0 hf hok [] ?_
 apply Stab.tr 8 _ hf hok
 · (
 intro fr1 w1 hh hd hk K Z
 have s40 := Stab.v 7 0 hd hk []
 refine Stab.sk s40 ?_
 exact Stab.k Z)
 apply Stab.tr 9 _ hf hok
 · (
 intro fr1 w1 hh hd hk K Z
 have s40 := Stab.v 7 1 hd hk []
 refine Stab.sk s40 ?_
 exact Stab.k Z)
 apply Stab.tr 10 _ hf hok
 · (
 intro fr1 w1 hh hd hk K Z
 have s40 := Stab.v 7 2 hd hk []
 refine Stab.sk s40 ?_
 exact Stab.k Z)
 apply Stab.tr 11 _ hf hok
 · (
 intro fr1 w1 hh hd hk K Z
 have s40 := Stab.v 7 3 hd hk []
 refine Stab.sk s40 ?_
 exact Stab.k Z)
 apply Stab.tr 12 _ hf hok
 · (
 intro fr1 w1 hh hd hk K Z
 have s40 := Stab.v 7 4 hd hk []
 refine Stab.sk s40 ?_
 exact Stab.k Z)
 apply Stab.tr 13 _ hf hok
 · (
 intro fr1 w1 hh hd hk K Z
 have s40 := Stab.v 7 5 hd hk []
 refine Stab.sk s40 ?_
 exact Stab.k Z)
 apply Stab.tr 14 _ hf hok
 · (
 intro fr1 w1 hh hd hk K Z
 have s40 := Stab.v 7 6 hd hk []
 refine Stab.sk s40 ?_
 exact Stab.k Z)
 apply Stab.tr 15 _ hf hok
 · (
 intro fr1 w1 hh hd hk K Z
 have s40 := Stab.v 7 7 hd hk []
 refine Stab.sk s40 ?_
 exact Stab.k Z)
 apply Stab.tq 16 _ hf hok
 · (
 intro fr1 w1 hh hd hk K Z
 have s40 := Stab.v 7 8 hd hk []
 have s48 := Stab.v 15 0 hd hk []
 clear hd
 go_simp
 exact Stab.k Z)
 refine Stab.mN 17 16 0 hf hok [] ?_
 apply Stab.tr 18 _ hf hok
 · (
 intro fr1 w1 hh hd hk K Z
 have s50 := Stab.v 17 0 hd hk []
 refine Stab.sk s50 ?_
 exact Stab.k Z)
 apply Stab.tr 19 _ hf hok
 · (
 intro fr1 w1 hh hd hk K Z
 have s50 := Stab.v 17 1 hd hk []
 refine Stab.sk s50 ?_
 exact Stab.k Z)
 apply Stab.tr 20 _ hf hok
 · (
 intro fr1 w1 hh hd hk K Z
 have s50 := Stab.v 17 2 hd hk []
 refine Stab.sk s50 ?_
 exact Stab.k Z)
 apply Stab.tr 21 _ hf hok
 · (
 intro fr1 w1 hh hd hk K Z
 have s53 := Stab.v 20 0 hd hk []
 refine Stab.su s53 ?_
 exact Stab.k Z)
 apply Stab.tr 22 _ hf hok
 · (
 intro fr1 w1 hh hd hk K Z
 have s53 := Stab.v 20 1 hd hk []
 refine Stab.su s53 ?_
 exact Stab.k Z)
 apply Stab.tr 23 _ hf hok
 · (
 intro fr1 w1 hh hd hk K Z
 have s53 := Stab.v 20 2 hd hk []
 refine Stab.su s53 ?_
 exact Stab.k Z)
 apply Stab.tr 24 _ hf hok
 · (
 intro fr1 w1 hh hd hk K Z
 have s53 := Stab.v 20 3 hd hk []
 refine Stab.su s53 ?_
 exact Stab.k Z)
 apply Stab.tr 25 _ hf hok
 · (
 intro fr1 w1 hh hd hk K Z
 have s53 := Stab.v 20 4 hd hk []
 refine Stab.su s53 ?_
 exact Stab.k Z)
 apply Stab.tr 26 _ hf hok
 · (
 intro fr1 w1 hh hd hk K Z
 have s53 := Stab.v 20 5 hd hk []
 refine Stab.su s53 ?_
 exact Stab.k Z)
 apply Stab.tr 27 _ hf hok
 · (
 intro fr1 w1 hh hd hk K Z
 have s53 := Stab.v 20 6 hd hk []
 refine Stab.su s53 ?_
 exact Stab.k Z)
 apply Stab.tr 28 _ hf hok
 · (
 intro fr1 w1 hh hd hk K Z
 have s53 := Stab.v 20 7 hd hk []
 refine Stab.su s53 ?_
 exact Stab.k Z)
 apply Stab.tr 29 _ hf hok
 · (
 intro fr1 w1 hh hd hk K Z
 have s53 := Stab.v 20 8 hd hk []
 refine Stab.su s53 ?_
 exact Stab.k Z)
 apply Stab.tr 30 _ hf hok
 · (
 intro fr1 w1 hh hd hk K Z
 have s53 := Stab.v 20 9 hd hk []
 refine Stab.su s53 ?_
 exact Stab.k Z)
 apply Stab.tr 31 _ hf hok
 · (
 intro fr1 w1 hh hd hk K Z
 have s53 := Stab.v 20 10 hd hk []
 refine Stab.su s53 ?_
 exact Stab.k Z)
 apply Stab.tr 32 _ hf hok
 · (
 intro fr1 w1 hh hd hk K Z
 have s53 := Stab.v 20 11 hd hk []
 refine Stab.su s53 ?_
 exact Stab.k Z)
 apply Stab.tr 33 _ hf hok
 · (
 intro fr1 w1 hh hd hk K Z
 have s53 := Stab.v 20 12 hd hk []
 refine Stab.su s53 ?_
 exact Stab.k Z)
 apply Stab.tr 34 _ hf hok
 · (
 intro fr1 w1 hh hd hk K Z
 have s53 := Stab.v 20 13 hd hk []
 refine Stab.su s53 ?_
 exact Stab.k Z)
 apply Stab.tr 35 _ hf hok
 · (
 intro fr1 w1 hh hd hk K Z
 have s50 := Stab.v 17 17 hd hk []
 refine Stab.sk s50 ?_
 exact Stab.k Z)
 apply Stab.tq 36 _ hf hok
 · (
 intro fr1 w1 hh hd hk K Z
 have s50 := Stab.v 17 18 hd hk []
 have s68 := Stab.v 35 0 hd hk []
 clear hd
 go_simp
 exact Stab.k Z)
 refine Stab.tf hf hok fun fr1 w1 hh hg => ?_
 replace s1 := Stab.O hh s1
 replace s3 := Stab.O hh s3
 replace s4 := Stab.O hh s4
 replace s5 := Stab.O hh s5
 have s69 := Stab.f 36 0 hg
 have hf1 := hh.fr hf
 have hx := hh.ext
 replace x0 := cL hx x0
 replace y0 := cL hx y0
 replace y2 := cL hx y2
 clear hg hh hf hok s30
 have hf := hf1; clear hf1
 refine nx (hK15 _ _ ?_)
 refine Fact.cond_t s69 ?_
 replace hb6 := hb6.trans (hx.mono hb6.size)
 have hbz := hbz0.trans (hb6.mono hbz0.size)
 have hbad : formedL 0 ss = false := by rw [HM.out, HST.out, HOA.out, HAT.out]; have := HC.out; rw [decide_eq_false (show ¬ 0 ≤ a.to by omega)]; simp
 have HBAD := Lib.hid hbad; clear hbad
 refine Fact.sq fun K16 hK16 => ?_
 refine rg ?_
 refine fp fun K Z => ?_
 go_simp
 apply Z.out; clear Z K
 refine Fact.z hf fun fr1 hf1 hT => ?_
 have hKp := hT 2
 simp (decide := true) only [Fact.G, hf.size, reduceIte] at hKp
 replace hf := hf1; clear hT hf1 s1 s3 s4 s5 s69
 have s2 := hKp; clear hKp
 refine nx (hK16 _ _ ?_)
 refine wp_ret ?_
 refine Fact.block_ret ?_
 refine Fact.then_ret ?_
 refine Fact.then_ret ?_
 refine Fact.block_ret ?_
 refine Fact.block_ret ?_
 refine Fact.then_ret ?_
 refine Fact.then_ret ?_
 refine Fact.block_ret ?_
 refine Fact.then_ret ?_
 exact Fact.ret1 rfl hf s2 ⟨by rw [formedF, HBAD.out]; rfl, hbz⟩)
 · (
 have q2 : decide (a.to < 0) = false := decide_eq_false (by omega)
 have q3 : decide ((i : Int) ≤ a.to) = true := decide_eq_true hc.2
 have HC := Lib.hid hc; have HKA := Lib.hid hka; have HAT := Lib.hid hat; clear hc hka hat
 refine wp_skip ?_
 refine nx (hK12 _ _ ?_)
 refine Fact.sq fun K17 hK17 => ?_
 refine wp_block ?_
 refine Fact.sq fun K18 hK18 => ?_
 refine Stab.tb 74 fun hok => ?_
 apply Stab.tq 0 _ hf hok
 · (
 intro fr1 w1 hh hd hk K Z
 have s4 := Stab.O hh s4
 clear hd
 go_simp
 exact Stab.k Z)
 apply Stab.tq 1 _ hf hok
 · (
 intro fr1 w1 hh hd hk K Z
 have s33 := Stab.v 0 0 hd hk []
 clear hd
 replace x0 := cL hh.ext x0
 replace y0 := cL hh.ext y0
 replace y2 := cL hh.ext y2
 go_simp
 exact Stab.k Z)
 refine Stab.mO 2 s5 hf hok ?_
 apply Stab.tq 3 _ hf hok
 · (
 intro fr1 w1 hh hd hk K Z
 have s34 := Stab.v 1 1 hd hk []
 have s35 := Stab.v 2 0 hd hk []
 clear hd
 go_simp
 try rw [if_pos (by omega)]
 exact Stab.k Z)
 apply Stab.tq 4 _ hf hok
 · (
 intro fr1 w1 hh hd hk K Z
 have s36 := Stab.v 3 0 hd hk []
 clear hd
 go_simp
 exact Stab.k Z)
 apply Stab.tq 5 _ hf hok
 · (
 intro fr1 w1 hh hd hk K Z
 have s37 := Stab.v 4 0 hd hk []
 clear hd
 replace x0 := cL hh.ext x0
 replace y0 := cL hh.ext y0
 replace y2 := cL hh.ext y2
 go_simp
 exact Stab.k Z)
 apply Stab.tq 6 _ hf hok
 · (
 intro fr1 w1 hh hd hk K Z
 have s38 := Stab.v 5 0 hd hk []
 clear hd
 go_simp
 exact Stab.k Z)
 refine Stab.mN 7 6 0 hf hok [] ?_
 apply Stab.tr 8 _ hf hok
 · (
 intro fr1 w1 hh hd hk K Z
 have s40 := Stab.v 7 0 hd hk []
 refine Stab.g s40 ?_
 have s4 := Stab.O hh s4
 clear hd
 go_simp
 exact Stab.k Z)
 apply Stab.tr 9 _ hf hok
 · (
 intro fr1 w1 hh hd hk K Z
 have s40 := Stab.v 7 1 hd hk []
 refine Stab.g s40 ?_
 have s41 := Stab.v 8 0 hd hk []
 clear hd
 replace x0 := cL hh.ext x0
 replace y0 := cL hh.ext y0
 replace y2 := cL hh.ext y2
 go_simp
 exact Stab.k Z)
 apply Stab.tr 10 _ hf hok
 · (
 intro fr1 w1 hh hd hk K Z
 have s40 := Stab.v 7 2 hd hk []
 refine Stab.g s40 ?_
 have s5 := Stab.O hh s5
 clear hd
 go_simp
 exact Stab.k Z)
 apply Stab.tr 11 _ hf hok
 · (
 intro fr1 w1 hh hd hk K Z
 have s40 := Stab.v 7 3 hd hk []
 refine Stab.g s40 ?_
 have s42 := Stab.v 9 1 hd hk []
 have s43 := Stab.v 10 0 hd hk []
 clear hd
 go_simp
 try rw [if_pos (by omega)]
 exact Stab.k Z)
 apply Stab.tr 12 _ hf hok
 · (
 intro fr1 w1 hh hd hk K Z
 have s40 := Stab.v 7 4 hd hk []
 refine Stab.g s40 ?_
 have s44 := Stab.v 11 0 hd hk []
 clear hd
 go_simp
 exact Stab.k Z)
 apply Stab.tr 13 _ hf hok
 · (
 intro fr1 w1 hh hd hk K Z
 have s40 := Stab.v 7 5 hd hk []
 refine Stab.g s40 ?_
 have s45 := Stab.v 12 0 hd hk []
 clear hd
 replace x0 := cL hh.ext x0
 replace y0 := cL hh.ext y0
 replace y2 := cL hh.ext y2
 go_simp
 exact Stab.k Z)
 apply Stab.tr 14 _ hf hok
 · (
 intro fr1 w1 hh hd hk K Z
 have s40 := Stab.v 7 6 hd hk []
 refine Stab.g s40 ?_
 have s3 := Stab.O hh s3
 clear hd
 go_simp
 exact Stab.k Z)
 apply Stab.tr 15 _ hf hok
 · (
 intro fr1 w1 hh hd hk K Z
 have s40 := Stab.v 7 7 hd hk []
 refine Stab.g s40 ?_
 have s46 := Stab.v 13 1 hd hk []
 have s47 := Stab.v 14 0 hd hk []
 clear hd
 go_simp
 exact Stab.k Z)
 apply Stab.tq 16 _ hf hok
 · (
 intro fr1 w1 hh hd hk K Z
 have s40 := Stab.v 7 8 hd hk []
 have s48 := Stab.v 15 0 hd hk []
 clear hd
 go_simp
 exact Stab.k Z)
 refine Stab.mN 17 16 0 hf hok [] ?_
 apply Stab.tr 18 _ hf hok
 · (
 intro fr1 w1 hh hd hk K Z
 have s50 := Stab.v 17 0 hd hk []
 refine Stab.sk s50 ?_
 exact Stab.k Z)
 apply Stab.tr 19 _ hf hok
 · (
 intro fr1 w1 hh hd hk K Z
 have s50 := Stab.v 17 1 hd hk []
 refine Stab.sk s50 ?_
 exact Stab.k Z)
 apply Stab.tr 20 _ hf hok
 · (
 intro fr1 w1 hh hd hk K Z
 have s50 := Stab.v 17 2 hd hk []
 refine Stab.sk s50 ?_
 exact Stab.k Z)
 apply Stab.tr 21 _ hf hok
 · (
 intro fr1 w1 hh hd hk K Z
 have s53 := Stab.v 20 0 hd hk []
 refine Stab.su s53 ?_
 exact Stab.k Z)
 apply Stab.tr 22 _ hf hok
 · (
 intro fr1 w1 hh hd hk K Z
 have s53 := Stab.v 20 1 hd hk []
 refine Stab.su s53 ?_
 exact Stab.k Z)
 apply Stab.tr 23 _ hf hok
 · (
 intro fr1 w1 hh hd hk K Z
 have s53 := Stab.v 20 2 hd hk []
 refine Stab.su s53 ?_
 exact Stab.k Z)
 apply Stab.tr 24 _ hf hok
 · (
 intro fr1 w1 hh hd hk K Z
 have s53 := Stab.v 20 3 hd hk []
 refine Stab.su s53 ?_
 exact Stab.k Z)
 apply Stab.tr 25 _ hf hok
 · (
 intro fr1 w1 hh hd hk K Z
 have s53 := Stab.v 20 4 hd hk []
 refine Stab.su s53 ?_
 exact Stab.k Z)
 apply Stab.tr 26 _ hf hok
 · (
 intro fr1 w1 hh hd hk K Z
 have s53 := Stab.v 20 5 hd hk []
 refine Stab.su s53 ?_
 exact Stab.k Z)
 apply Stab.tr 27 _ hf hok
 · (
 intro fr1 w1 hh hd hk K Z
 have s53 := Stab.v 20 6 hd hk []
 refine Stab.su s53 ?_
 exact Stab.k Z)
 apply Stab.tr 28 _ hf hok
 · (
 intro fr1 w1 hh hd hk K Z
 have s53 := Stab.v 20 7 hd hk []
 refine Stab.su s53 ?_
 exact Stab.k Z)
 apply Stab.tr 29 _ hf hok
 · (
 intro fr1 w1 hh hd hk K Z
 have s53 := Stab.v 20 8 hd hk []
 refine Stab.su s53 ?_
 exact Stab.k Z)
 apply Stab.tr 30 _ hf hok
 · (
 intro fr1 w1 hh hd hk K Z
 have s53 := Stab.v 20 9 hd hk []
 refine Stab.su s53 ?_
 exact Stab.k Z)
 apply Stab.tr 31 _ hf hok
 · (
 intro fr1 w1 hh hd hk K Z
 have s53 := Stab.v 20 10 hd hk []
 refine Stab.su s53 ?_
 exact Stab.k Z)
 apply Stab.tr 32 _ hf hok
 · (
 intro fr1 w1 hh hd hk K Z
 have s53 := Stab.v 20 11 hd hk []
 refine Stab.su s53 ?_
 exact Stab.k Z)
 apply Stab.tr 33 _ hf hok
 · (
 intro fr1 w1 hh hd hk K Z
 have s53 := Stab.v 20 12 hd hk []
 refine Stab.su s53 ?_
 exact Stab.k Z)
 apply Stab.tr 34 _ hf hok
 · (
 intro fr1 w1 hh hd hk K Z
 have s53 := Stab.v 20 13 hd hk []
 refine Stab.su s53 ?_
 exact Stab.k Z)
 apply Stab.tr 35 _ hf hok
 · (
 intro fr1 w1 hh hd hk K Z
 have s50 := Stab.v 17 17 hd hk []
 refine Stab.sk s50 ?_
 exact Stab.k Z)
 apply Stab.tq 36 _ hf hok
 · (
 intro fr1 w1 hh hd hk K Z
 have s50 := Stab.v 17 18 hd hk []
 have s68 := Stab.v 35 0 hd hk []
 clear hd
 go_simp
 exact Stab.k Z)
 refine Stab.tf hf hok fun fr1 w1 hh hg => ?_
 replace s1 := Stab.O hh s1
 replace s3 := Stab.O hh s3
 replace s4 := Stab.O hh s4
 replace s5 := Stab.O hh s5
 have s69 := Stab.f 36 0 hg
 have hf1 := hh.fr hf
 have hx := hh.ext
 replace x0 := cL hx x0
 replace y0 := cL hx y0
 replace y2 := cL hx y2
 clear hg hh hf hok s30
 have hf := hf1; clear hf1
 refine nx (hK18 _ _ ?_)
 refine Fact.cond_t s69 ?_
 replace hb6 := hb6.trans (hx.mono hb6.size)
 have hbz := hbz0.trans (hb6.mono hbz0.size)
 have hbad : formedL 0 ss = false := by rw [HM.out, HST.out, HOA.out, HAT.out]; have := HC.out; rw [decide_eq_false (show ¬ a.to < (i : Int) by omega)]; simp
 have HBAD := Lib.hid hbad; clear hbad
 refine Fact.sq fun K19 hK19 => ?_
 refine rg ?_
 refine fp fun K Z => ?_
 go_simp
 apply Z.out; clear Z K
 refine Fact.z hf fun fr1 hf1 hT => ?_
 have hKp := hT 2
 simp (decide := true) only [Fact.G, hf.size, reduceIte] at hKp
 replace hf := hf1; clear hT hf1 s1 s3 s4 s5 s69
 have s2 := hKp; clear hKp
 refine nx (hK19 _ _ ?_)
 refine wp_ret ?_
 refine Fact.block_ret ?_
 refine Fact.then_ret ?_
 refine Fact.then_ret ?_
 refine Fact.block_ret ?_
 refine Fact.block_ret ?_
 refine Fact.then_ret ?_
 refine Fact.then_ret ?_
 refine Fact.block_ret ?_
 refine Fact.then_ret ?_
 exact Fact.ret1 rfl hf s2 ⟨by rw [formedF, HBAD.out]; rfl, hbz⟩)
 · (
 have q2 : decide (a.to < 0) = false := decide_eq_false (by omega)
 have q3 : decide ((i : Int) ≤ a.to) = false := decide_eq_false (by omega)
 have q5 : decide (0 < k) = false := decide_eq_false (by omega)
 have hlb : lastB s.arcs k = -1 := (by have h9 : k = 0 := (by omega); rw [h9]; rfl)
 have HLB := Lib.hid hlb; clear hlb
 have HC := Lib.hid hc; have HKA := Lib.hid hka; have HAT := Lib.hid hat; clear hc hka hat
 refine wp_skip ?_
 refine nx (hK12 _ _ ?_)
 refine Fact.sq fun K20 hK20 => ?_
 refine wp_block ?_
 refine Fact.sq fun K21 hK21 => ?_
 refine Stab.tb 74 fun hok => ?_
 apply Stab.tq 0 _ hf hok
 · (
 intro fr1 w1 hh hd hk K Z
 have s4 := Stab.O hh s4
 clear hd
 go_simp
 exact Stab.k Z)
 apply Stab.tq 1 _ hf hok
 · (
 intro fr1 w1 hh hd hk K Z
 have s33 := Stab.v 0 0 hd hk []
 clear hd
 replace x0 := cL hh.ext x0
 replace y0 := cL hh.ext y0
 replace y2 := cL hh.ext y2
 go_simp
 exact Stab.k Z)
 refine Stab.mO 2 s5 hf hok ?_
 apply Stab.tq 3 _ hf hok
 · (
 intro fr1 w1 hh hd hk K Z
 have s34 := Stab.v 1 1 hd hk []
 have s35 := Stab.v 2 0 hd hk []
 clear hd
 go_simp
 try rw [if_pos (by omega)]
 exact Stab.k Z)
 apply Stab.tq 4 _ hf hok
 · (
 intro fr1 w1 hh hd hk K Z
 have s36 := Stab.v 3 0 hd hk []
 clear hd
 go_simp
 exact Stab.k Z)
 apply Stab.tq 5 _ hf hok
 · (
 intro fr1 w1 hh hd hk K Z
 have s37 := Stab.v 4 0 hd hk []
 clear hd
 replace x0 := cL hh.ext x0
 replace y0 := cL hh.ext y0
 replace y2 := cL hh.ext y2
 go_simp
 exact Stab.k Z)
 apply Stab.tq 6 _ hf hok
 · (
 intro fr1 w1 hh hd hk K Z
 have s38 := Stab.v 5 0 hd hk []
 clear hd
 go_simp
 exact Stab.k Z)
 refine Stab.mN 7 6 0 hf hok [] ?_
 apply Stab.tr 8 _ hf hok
 · (
 intro fr1 w1 hh hd hk K Z
 have s40 := Stab.v 7 0 hd hk []
 refine Stab.g s40 ?_
 have s4 := Stab.O hh s4
 clear hd
 go_simp
 exact Stab.k Z)
 apply Stab.tr 9 _ hf hok
 · (
 intro fr1 w1 hh hd hk K Z
 have s40 := Stab.v 7 1 hd hk []
 refine Stab.g s40 ?_
 have s41 := Stab.v 8 0 hd hk []
 clear hd
 replace x0 := cL hh.ext x0
 replace y0 := cL hh.ext y0
 replace y2 := cL hh.ext y2
 go_simp
 exact Stab.k Z)
 apply Stab.tr 10 _ hf hok
 · (
 intro fr1 w1 hh hd hk K Z
 have s40 := Stab.v 7 2 hd hk []
 refine Stab.g s40 ?_
 have s5 := Stab.O hh s5
 clear hd
 go_simp
 exact Stab.k Z)
 apply Stab.tr 11 _ hf hok
 · (
 intro fr1 w1 hh hd hk K Z
 have s40 := Stab.v 7 3 hd hk []
 refine Stab.g s40 ?_
 have s42 := Stab.v 9 1 hd hk []
 have s43 := Stab.v 10 0 hd hk []
 clear hd
 go_simp
 try rw [if_pos (by omega)]
 exact Stab.k Z)
 apply Stab.tr 12 _ hf hok
 · (
 intro fr1 w1 hh hd hk K Z
 have s40 := Stab.v 7 4 hd hk []
 refine Stab.g s40 ?_
 have s44 := Stab.v 11 0 hd hk []
 clear hd
 go_simp
 exact Stab.k Z)
 apply Stab.tr 13 _ hf hok
 · (
 intro fr1 w1 hh hd hk K Z
 have s40 := Stab.v 7 5 hd hk []
 refine Stab.g s40 ?_
 have s45 := Stab.v 12 0 hd hk []
 clear hd
 replace x0 := cL hh.ext x0
 replace y0 := cL hh.ext y0
 replace y2 := cL hh.ext y2
 go_simp
 exact Stab.k Z)
 apply Stab.tr 14 _ hf hok
 · (
 intro fr1 w1 hh hd hk K Z
 have s40 := Stab.v 7 6 hd hk []
 refine Stab.g s40 ?_
 have s3 := Stab.O hh s3
 clear hd
 go_simp
 exact Stab.k Z)
 apply Stab.tr 15 _ hf hok
 · (
 intro fr1 w1 hh hd hk K Z
 have s40 := Stab.v 7 7 hd hk []
 refine Stab.g s40 ?_
 have s46 := Stab.v 13 1 hd hk []
 have s47 := Stab.v 14 0 hd hk []
 clear hd
 go_simp
 exact Stab.k Z)
 apply Stab.tq 16 _ hf hok
 · (
 intro fr1 w1 hh hd hk K Z
 have s40 := Stab.v 7 8 hd hk []
 have s48 := Stab.v 15 0 hd hk []
 clear hd
 go_simp
 exact Stab.k Z)
 refine Stab.mN 17 16 0 hf hok [] ?_
 apply Stab.tr 18 _ hf hok
 · (
 intro fr1 w1 hh hd hk K Z
 have s50 := Stab.v 17 0 hd hk []
 refine Stab.g s50 ?_
 have s5 := Stab.O hh s5
 clear hd
 go_simp
 exact Stab.k Z)
 apply Stab.tr 19 _ hf hok
 · (
 intro fr1 w1 hh hd hk K Z
 have s50 := Stab.v 17 1 hd hk []
 refine Stab.g s50 ?_
 have s51 := Stab.v 18 0 hd hk []
 clear hd
 go_simp
 exact Stab.k Z)
 apply Stab.tr 20 _ hf hok
 · (
 intro fr1 w1 hh hd hk K Z
 have s50 := Stab.v 17 2 hd hk []
 refine Stab.g s50 ?_
 have s52 := Stab.v 19 0 hd hk []
 clear hd
 go_simp
 exact Stab.k Z)
 apply Stab.tr 21 _ hf hok
 · (
 intro fr1 w1 hh hd hk K Z
 have s53 := Stab.v 20 0 hd hk []
 refine Stab.sk s53 ?_
 exact Stab.k Z)
 apply Stab.tr 22 _ hf hok
 · (
 intro fr1 w1 hh hd hk K Z
 have s53 := Stab.v 20 1 hd hk []
 refine Stab.sk s53 ?_
 exact Stab.k Z)
 apply Stab.tr 23 _ hf hok
 · (
 intro fr1 w1 hh hd hk K Z
 have s53 := Stab.v 20 2 hd hk []
 refine Stab.sk s53 ?_
 exact Stab.k Z)
 apply Stab.tr 24 _ hf hok
 · (
 intro fr1 w1 hh hd hk K Z
 have s53 := Stab.v 20 3 hd hk []
 refine Stab.sk s53 ?_
 exact Stab.k Z)
 apply Stab.tr 25 _ hf hok
 · (
 intro fr1 w1 hh hd hk K Z
 have s53 := Stab.v 20 4 hd hk []
 refine Stab.sk s53 ?_
 exact Stab.k Z)
 apply Stab.tr 26 _ hf hok
 · (
 intro fr1 w1 hh hd hk K Z
 have s53 := Stab.v 20 5 hd hk []
 refine Stab.sk s53 ?_
 exact Stab.k Z)
 apply Stab.tr 27 _ hf hok
 · (
 intro fr1 w1 hh hd hk K Z
 have s53 := Stab.v 20 6 hd hk []
 refine Stab.sk s53 ?_
 exact Stab.k Z)
 apply Stab.tr 28 _ hf hok
 · (
 intro fr1 w1 hh hd hk K Z
 have s53 := Stab.v 20 7 hd hk []
 refine Stab.sk s53 ?_
 exact Stab.k Z)
 apply Stab.tr 29 _ hf hok
 · (
 intro fr1 w1 hh hd hk K Z
 have s53 := Stab.v 20 8 hd hk []
 refine Stab.sk s53 ?_
 exact Stab.k Z)
 apply Stab.tr 30 _ hf hok
 · (
 intro fr1 w1 hh hd hk K Z
 have s53 := Stab.v 20 9 hd hk []
 refine Stab.sk s53 ?_
 exact Stab.k Z)
 apply Stab.tr 31 _ hf hok
 · (
 intro fr1 w1 hh hd hk K Z
 have s53 := Stab.v 20 10 hd hk []
 refine Stab.sk s53 ?_
 exact Stab.k Z)
 apply Stab.tr 32 _ hf hok
 · (
 intro fr1 w1 hh hd hk K Z
 have s53 := Stab.v 20 11 hd hk []
 refine Stab.sk s53 ?_
 exact Stab.k Z)
 apply Stab.tr 33 _ hf hok
 · (
 intro fr1 w1 hh hd hk K Z
 have s53 := Stab.v 20 12 hd hk []
 refine Stab.sk s53 ?_
 exact Stab.k Z)
 apply Stab.tr 34 _ hf hok
 · (
 intro fr1 w1 hh hd hk K Z
 have s53 := Stab.v 20 13 hd hk []
 refine Stab.sk s53 ?_
 exact Stab.k Z)
 apply Stab.tr 35 _ hf hok
 · (
 intro fr1 w1 hh hd hk K Z
 have s50 := Stab.v 17 17 hd hk []
 refine Stab.g s50 ?_
 have s53 := Stab.v 20 14 hd hk []
 have s67 := Stab.v 34 0 hd hk []
 clear hd
 go_simp
 exact Stab.k Z)
 apply Stab.tq 36 _ hf hok
 · (
 intro fr1 w1 hh hd hk K Z
 have s50 := Stab.v 17 18 hd hk []
 have s68 := Stab.v 35 0 hd hk []
 clear hd
 go_simp
 exact Stab.k Z)
 refine Stab.tf hf hok fun fr1 w1 hh hg => ?_
 replace s1 := Stab.O hh s1
 replace s3 := Stab.O hh s3
 replace s4 := Stab.O hh s4
 replace s5 := Stab.O hh s5
 have s69 := Stab.f 36 0 hg
 have hf1 := hh.fr hf
 have hx := hh.ext
 replace x0 := cL hx x0
 replace y0 := cL hx y0
 replace y2 := cL hx y2
 clear hg hh hf hok s30
 have hf := hf1; clear hf1
 refine nx (hK21 _ _ ?_)
 refine Fact.cond_f s69 ?_
 replace hb6 := hb6.trans (hx.mono hb6.size)
 have hbz := hbz0.trans (hb6.mono hbz0.size)
 have hoa3 : okArcs i (-1) s.arcs = okArcs i (lastB s.arcs (k + 1)) (s.arcs.drop (k + 1)) := by rw [HOA.out, HAT.out, HLN.out, HLB.out]; have := HC.out; rw [decide_eq_true (show 0 ≤ a.to by omega), decide_eq_true (show a.to < (i : Int) by omega), decide_eq_true (show (-1 : Int) < (a.byte : Int) by omega)]; rfl
 have HOA3 := Lib.hid hoa3; clear hoa3
 refine wp_skip ?_
 refine Fact.block_normal ?_
 refine nx (hK20 _ _ ?_)
 refine rg ?_
 have b31 := hf.b 31
 have b32 := hf.b 32
 refine fp fun K Z => ?_
 go_simp
 apply Z.out; clear Z K
 refine fp fun K Z => ?_
 go_simp
 try simp (disch := omega) only [Fact.W]
 apply Z.out; clear Z K
 refine fp fun K Z => ?_
 go_simp
 apply Z.out; clear Z K
 refine Fact.z hf fun fr1 hf1 hT => ?_
 have hKp : _ ∧ _ ∧ _ ∧ _ := ⟨hT 1, hT 3, hT 4, hT 5⟩
 simp (decide := true) only [Fact.G, hf.size, reduceIte, s1, s3, s4] at hKp
 replace hf := hf1; clear hT hf1 s1 s3 s4 s5 s69 b31 b32
 obtain ⟨s1, s3, s4, s5⟩ := hKp
 refine Fact.then_normal ?_
 exact ⟨_, by have := HK2.out; omega, k + 1, rfl, by omega, hf, s1, s3, s4, by rw [s5]; rfl, HOA3.out, hb6⟩)
 · (
 have q2 : decide (a.to < 0) = false := decide_eq_false (by omega)
 have q3 : decide ((i : Int) ≤ a.to) = false := decide_eq_false (by omega)
 have q5 : decide (0 < k) = true := decide_eq_true (by omega)
 obtain ⟨p, hkp⟩ : ∃ a, s.arcs[k - 1]? = some a := ⟨_, List.getElem?_eq_getElem (by omega)⟩
 obtain ⟨b4, off4, he4, -, u0, -, -⟩ := (hra5.later hb6).at' hkp
 injection he4 with he4
 injection he4 with he4 he5 _
 subst he4; subst he5
 have hlb := lastB_prev hkp (by omega)
 have HN1 := Lib.hid (show (k : Int) - 1 = ((k - 1 : Nat) : Int) by omega)
 rw [hlb] at hc
 have q6 : decide (a.byte ≤ p.byte) = true := decide_eq_true (by omega)
 have HLB := Lib.hid hlb; clear hlb hkp
 have HC := Lib.hid hc; have HKA := Lib.hid hka; have HAT := Lib.hid hat; clear hc hka hat
 refine wp_skip ?_
 refine nx (hK12 _ _ ?_)
 refine Fact.sq fun K22 hK22 => ?_
 refine wp_block ?_
 refine Fact.sq fun K23 hK23 => ?_
 refine Stab.tb 74 fun hok => ?_
 apply Stab.tq 0 _ hf hok
 · (
 intro fr1 w1 hh hd hk K Z
 have s4 := Stab.O hh s4
 clear hd
 go_simp
 exact Stab.k Z)
 apply Stab.tq 1 _ hf hok
 · (
 intro fr1 w1 hh hd hk K Z
 have s33 := Stab.v 0 0 hd hk []
 clear hd
 replace x0 := cL hh.ext x0
 replace y0 := cL hh.ext y0
 replace y2 := cL hh.ext y2
 replace u0 := cL hh.ext u0
 go_simp
 exact Stab.k Z)
 refine Stab.mO 2 s5 hf hok ?_
 apply Stab.tq 3 _ hf hok
 · (
 intro fr1 w1 hh hd hk K Z
 have s34 := Stab.v 1 1 hd hk []
 have s35 := Stab.v 2 0 hd hk []
 clear hd
 go_simp
 try rw [if_pos (by omega)]
 exact Stab.k Z)
 apply Stab.tq 4 _ hf hok
 · (
 intro fr1 w1 hh hd hk K Z
 have s36 := Stab.v 3 0 hd hk []
 clear hd
 go_simp
 exact Stab.k Z)
 apply Stab.tq 5 _ hf hok
 · (
 intro fr1 w1 hh hd hk K Z
 have s37 := Stab.v 4 0 hd hk []
 clear hd
 replace x0 := cL hh.ext x0
 replace y0 := cL hh.ext y0
 replace y2 := cL hh.ext y2
 replace u0 := cL hh.ext u0
 go_simp
 exact Stab.k Z)
 apply Stab.tq 6 _ hf hok
 · (
 intro fr1 w1 hh hd hk K Z
 have s38 := Stab.v 5 0 hd hk []
 clear hd
 go_simp
 exact Stab.k Z)
 refine Stab.mN 7 6 0 hf hok [] ?_
 apply Stab.tr 8 _ hf hok
 · (
 intro fr1 w1 hh hd hk K Z
 have s40 := Stab.v 7 0 hd hk []
 refine Stab.g s40 ?_
 have s4 := Stab.O hh s4
 clear hd
 go_simp
 exact Stab.k Z)
 apply Stab.tr 9 _ hf hok
 · (
 intro fr1 w1 hh hd hk K Z
 have s40 := Stab.v 7 1 hd hk []
 refine Stab.g s40 ?_
 have s41 := Stab.v 8 0 hd hk []
 clear hd
 replace x0 := cL hh.ext x0
 replace y0 := cL hh.ext y0
 replace y2 := cL hh.ext y2
 replace u0 := cL hh.ext u0
 go_simp
 exact Stab.k Z)
 apply Stab.tr 10 _ hf hok
 · (
 intro fr1 w1 hh hd hk K Z
 have s40 := Stab.v 7 2 hd hk []
 refine Stab.g s40 ?_
 have s5 := Stab.O hh s5
 clear hd
 go_simp
 exact Stab.k Z)
 apply Stab.tr 11 _ hf hok
 · (
 intro fr1 w1 hh hd hk K Z
 have s40 := Stab.v 7 3 hd hk []
 refine Stab.g s40 ?_
 have s42 := Stab.v 9 1 hd hk []
 have s43 := Stab.v 10 0 hd hk []
 clear hd
 go_simp
 try rw [if_pos (by omega)]
 exact Stab.k Z)
 apply Stab.tr 12 _ hf hok
 · (
 intro fr1 w1 hh hd hk K Z
 have s40 := Stab.v 7 4 hd hk []
 refine Stab.g s40 ?_
 have s44 := Stab.v 11 0 hd hk []
 clear hd
 go_simp
 exact Stab.k Z)
 apply Stab.tr 13 _ hf hok
 · (
 intro fr1 w1 hh hd hk K Z
 have s40 := Stab.v 7 5 hd hk []
 refine Stab.g s40 ?_
 have s45 := Stab.v 12 0 hd hk []
 clear hd
 replace x0 := cL hh.ext x0
 replace y0 := cL hh.ext y0
 replace y2 := cL hh.ext y2
 replace u0 := cL hh.ext u0
 go_simp
 exact Stab.k Z)
 apply Stab.tr 14 _ hf hok
 · (
 intro fr1 w1 hh hd hk K Z
 have s40 := Stab.v 7 6 hd hk []
 refine Stab.g s40 ?_
 have s3 := Stab.O hh s3
 clear hd
 go_simp
 exact Stab.k Z)
 apply Stab.tr 15 _ hf hok
 · (
 intro fr1 w1 hh hd hk K Z
 have s40 := Stab.v 7 7 hd hk []
 refine Stab.g s40 ?_
 have s46 := Stab.v 13 1 hd hk []
 have s47 := Stab.v 14 0 hd hk []
 clear hd
 go_simp
 exact Stab.k Z)
 apply Stab.tq 16 _ hf hok
 · (
 intro fr1 w1 hh hd hk K Z
 have s40 := Stab.v 7 8 hd hk []
 have s48 := Stab.v 15 0 hd hk []
 clear hd
 go_simp
 exact Stab.k Z)
 refine Stab.mN 17 16 0 hf hok [] ?_
 apply Stab.tr 18 _ hf hok
 · (
 intro fr1 w1 hh hd hk K Z
 have s50 := Stab.v 17 0 hd hk []
 refine Stab.g s50 ?_
 have s5 := Stab.O hh s5
 clear hd
 go_simp
 exact Stab.k Z)
 apply Stab.tr 19 _ hf hok
 · (
 intro fr1 w1 hh hd hk K Z
 have s50 := Stab.v 17 1 hd hk []
 refine Stab.g s50 ?_
 have s51 := Stab.v 18 0 hd hk []
 clear hd
 go_simp
 exact Stab.k Z)
 apply Stab.tr 20 _ hf hok
 · (
 intro fr1 w1 hh hd hk K Z
 have s50 := Stab.v 17 2 hd hk []
 refine Stab.g s50 ?_
 have s52 := Stab.v 19 0 hd hk []
 clear hd
 go_simp
 exact Stab.k Z)
 apply Stab.tr 21 _ hf hok
 · (
 intro fr1 w1 hh hd hk K Z
 have s53 := Stab.v 20 0 hd hk []
 refine Stab.g s53 ?_
 have s4 := Stab.O hh s4
 clear hd
 go_simp
 exact Stab.k Z)
 apply Stab.tr 22 _ hf hok
 · (
 intro fr1 w1 hh hd hk K Z
 have s53 := Stab.v 20 1 hd hk []
 refine Stab.g s53 ?_
 have s54 := Stab.v 21 0 hd hk []
 clear hd
 replace x0 := cL hh.ext x0
 replace y0 := cL hh.ext y0
 replace y2 := cL hh.ext y2
 replace u0 := cL hh.ext u0
 go_simp
 exact Stab.k Z)
 apply Stab.tr 23 _ hf hok
 · (
 intro fr1 w1 hh hd hk K Z
 have s53 := Stab.v 20 2 hd hk []
 refine Stab.g s53 ?_
 have s5 := Stab.O hh s5
 clear hd
 go_simp
 exact Stab.k Z)
 apply Stab.tr 24 _ hf hok
 · (
 intro fr1 w1 hh hd hk K Z
 have s53 := Stab.v 20 3 hd hk []
 refine Stab.g s53 ?_
 have s55 := Stab.v 22 1 hd hk []
 have s56 := Stab.v 23 0 hd hk []
 clear hd
 go_simp
 try rw [if_pos (by omega)]
 exact Stab.k Z)
 apply Stab.tr 25 _ hf hok
 · (
 intro fr1 w1 hh hd hk K Z
 have s53 := Stab.v 20 4 hd hk []
 refine Stab.g s53 ?_
 have s57 := Stab.v 24 0 hd hk []
 clear hd
 go_simp
 exact Stab.k Z)
 apply Stab.tr 26 _ hf hok
 · (
 intro fr1 w1 hh hd hk K Z
 have s53 := Stab.v 20 5 hd hk []
 refine Stab.g s53 ?_
 have s58 := Stab.v 25 0 hd hk []
 clear hd
 replace x0 := cL hh.ext x0
 replace y0 := cL hh.ext y0
 replace y2 := cL hh.ext y2
 replace u0 := cL hh.ext u0
 go_simp
 exact Stab.k Z)
 apply Stab.tr 27 _ hf hok
 · (
 intro fr1 w1 hh hd hk K Z
 have s53 := Stab.v 20 6 hd hk []
 refine Stab.g s53 ?_
 have s4 := Stab.O hh s4
 clear hd
 go_simp
 exact Stab.k Z)
 apply Stab.tr 28 _ hf hok
 · (
 intro fr1 w1 hh hd hk K Z
 have s53 := Stab.v 20 7 hd hk []
 refine Stab.g s53 ?_
 have s60 := Stab.v 27 0 hd hk []
 clear hd
 replace x0 := cL hh.ext x0
 replace y0 := cL hh.ext y0
 replace y2 := cL hh.ext y2
 replace u0 := cL hh.ext u0
 go_simp
 exact Stab.k Z)
 apply Stab.tr 29 _ hf hok
 · (
 intro fr1 w1 hh hd hk K Z
 have s53 := Stab.v 20 8 hd hk []
 refine Stab.g s53 ?_
 have s5 := Stab.O hh s5
 clear hd
 go_simp
 exact Stab.k Z)
 apply Stab.tr 30 _ hf hok
 · (
 intro fr1 w1 hh hd hk K Z
 have s53 := Stab.v 20 9 hd hk []
 refine Stab.g s53 ?_
 have s62 := Stab.v 29 0 hd hk []
 clear hd
 go_simp
 try simp (disch := omega) only [Fact.W]
 rw [HN1.out]
 exact Stab.k Z)
 apply Stab.tr 31 _ hf hok
 · (
 intro fr1 w1 hh hd hk K Z
 have s53 := Stab.v 20 10 hd hk []
 refine Stab.g s53 ?_
 have s61 := Stab.v 28 2 hd hk []
 have s63 := Stab.v 30 0 hd hk []
 clear hd
 go_simp
 try rw [if_pos (by omega)]
 exact Stab.k Z)
 apply Stab.tr 32 _ hf hok
 · (
 intro fr1 w1 hh hd hk K Z
 have s53 := Stab.v 20 11 hd hk []
 refine Stab.g s53 ?_
 have s64 := Stab.v 31 0 hd hk []
 clear hd
 go_simp
 exact Stab.k Z)
 apply Stab.tr 33 _ hf hok
 · (
 intro fr1 w1 hh hd hk K Z
 have s53 := Stab.v 20 12 hd hk []
 refine Stab.g s53 ?_
 have s65 := Stab.v 32 0 hd hk []
 clear hd
 replace x0 := cL hh.ext x0
 replace y0 := cL hh.ext y0
 replace y2 := cL hh.ext y2
 replace u0 := cL hh.ext u0
 go_simp
 exact Stab.k Z)
 apply Stab.tr 34 _ hf hok
 · (
 intro fr1 w1 hh hd hk K Z
 have s53 := Stab.v 20 13 hd hk []
 refine Stab.g s53 ?_
 have s59 := Stab.v 26 7 hd hk []
 have s66 := Stab.v 33 0 hd hk []
 clear hd
 go_simp
 exact Stab.k Z)
 apply Stab.tr 35 _ hf hok
 · (
 intro fr1 w1 hh hd hk K Z
 have s50 := Stab.v 17 17 hd hk []
 refine Stab.g s50 ?_
 have s53 := Stab.v 20 14 hd hk []
 have s67 := Stab.v 34 0 hd hk []
 clear hd
 go_simp
 exact Stab.k Z)
 apply Stab.tq 36 _ hf hok
 · (
 intro fr1 w1 hh hd hk K Z
 have s50 := Stab.v 17 18 hd hk []
 have s68 := Stab.v 35 0 hd hk []
 clear hd
 go_simp
 exact Stab.k Z)
 refine Stab.tf hf hok fun fr1 w1 hh hg => ?_
 replace s1 := Stab.O hh s1
 replace s3 := Stab.O hh s3
 replace s4 := Stab.O hh s4
 replace s5 := Stab.O hh s5
 have s69 := Stab.f 36 0 hg
 have hf1 := hh.fr hf
 have hx := hh.ext
 replace x0 := cL hx x0
 replace y0 := cL hx y0
 replace y2 := cL hx y2
 replace u0 := cL hx u0
 clear hg hh hf hok s30
 have hf := hf1; clear hf1
 refine nx (hK23 _ _ ?_)
 refine Fact.cond_t s69 ?_
 replace hb6 := hb6.trans (hx.mono hb6.size)
 have hbz := hbz0.trans (hb6.mono hbz0.size)
 have hbad : formedL 0 ss = false := by rw [HM.out, HST.out, HOA.out, HAT.out, HLB.out]; have := HC.out; rw [decide_eq_false (show ¬ (p.byte : Int) < (a.byte : Int) by omega)]; simp
 have HBAD := Lib.hid hbad; clear hbad
 refine Fact.sq fun K24 hK24 => ?_
 refine rg ?_
 refine fp fun K Z => ?_
 go_simp
 apply Z.out; clear Z K
 refine Fact.z hf fun fr1 hf1 hT => ?_
 have hKp := hT 2
 simp (decide := true) only [Fact.G, hf.size, reduceIte] at hKp
 replace hf := hf1; clear hT hf1 s1 s3 s4 s5 s69
 have s2 := hKp; clear hKp
 refine nx (hK24 _ _ ?_)
 refine wp_ret ?_
 refine Fact.block_ret ?_
 refine Fact.then_ret ?_
 refine Fact.then_ret ?_
 refine Fact.block_ret ?_
 refine Fact.block_ret ?_
 refine Fact.then_ret ?_
 refine Fact.then_ret ?_
 refine Fact.block_ret ?_
 refine Fact.then_ret ?_
 exact Fact.ret1 rfl hf s2 ⟨by rw [formedF, HBAD.out]; rfl, hbz⟩)
 · (
 have q2 : decide (a.to < 0) = false := decide_eq_false (by omega)
 have q3 : decide ((i : Int) ≤ a.to) = false := decide_eq_false (by omega)
 have q5 : decide (0 < k) = true := decide_eq_true (by omega)
 obtain ⟨p, hkp⟩ : ∃ a, s.arcs[k - 1]? = some a := ⟨_, List.getElem?_eq_getElem (by omega)⟩
 obtain ⟨b4, off4, he4, -, u0, -, -⟩ := (hra5.later hb6).at' hkp
 injection he4 with he4
 injection he4 with he4 he5 _
 subst he4; subst he5
 have hlb := lastB_prev hkp (by omega)
 have HN1 := Lib.hid (show (k : Int) - 1 = ((k - 1 : Nat) : Int) by omega)
 rw [hlb] at hc
 have q6 : decide (a.byte ≤ p.byte) = false := decide_eq_false (by omega)
 have HLB := Lib.hid hlb; clear hlb hkp
 have HC := Lib.hid hc; have HKA := Lib.hid hka; have HAT := Lib.hid hat; clear hc hka hat
 refine wp_skip ?_
 refine nx (hK12 _ _ ?_)
 refine Fact.sq fun K25 hK25 => ?_
 refine wp_block ?_
 refine Fact.sq fun K26 hK26 => ?_
 refine Stab.tb 74 fun hok => ?_
 apply Stab.tq 0 _ hf hok
 · (
 intro fr1 w1 hh hd hk K Z
 have s4 := Stab.O hh s4
 clear hd
 go_simp
 exact Stab.k Z)
 apply Stab.tq 1 _ hf hok
 · (
 intro fr1 w1 hh hd hk K Z
 have s33 := Stab.v 0 0 hd hk []
 clear hd
 replace x0 := cL hh.ext x0
 replace y0 := cL hh.ext y0
 replace y2 := cL hh.ext y2
 replace u0 := cL hh.ext u0
 go_simp
 exact Stab.k Z)
 refine Stab.mO 2 s5 hf hok ?_
 apply Stab.tq 3 _ hf hok
 · (
 intro fr1 w1 hh hd hk K Z
 have s34 := Stab.v 1 1 hd hk []
 have s35 := Stab.v 2 0 hd hk []
 clear hd
 go_simp
 try rw [if_pos (by omega)]
 exact Stab.k Z)
 apply Stab.tq 4 _ hf hok
 · (
 intro fr1 w1 hh hd hk K Z
 have s36 := Stab.v 3 0 hd hk []
 clear hd
 go_simp
 exact Stab.k Z)
 apply Stab.tq 5 _ hf hok
 · (
 intro fr1 w1 hh hd hk K Z
 have s37 := Stab.v 4 0 hd hk []
 clear hd
 replace x0 := cL hh.ext x0
 replace y0 := cL hh.ext y0
 replace y2 := cL hh.ext y2
 replace u0 := cL hh.ext u0
 go_simp
 exact Stab.k Z)
 apply Stab.tq 6 _ hf hok
 · (
 intro fr1 w1 hh hd hk K Z
 have s38 := Stab.v 5 0 hd hk []
 clear hd
 go_simp
 exact Stab.k Z)
 refine Stab.mN 7 6 0 hf hok [] ?_
 apply Stab.tr 8 _ hf hok
 · (
 intro fr1 w1 hh hd hk K Z
 have s40 := Stab.v 7 0 hd hk []
 refine Stab.g s40 ?_
 have s4 := Stab.O hh s4
 clear hd
 go_simp
 exact Stab.k Z)
 apply Stab.tr 9 _ hf hok
 · (
 intro fr1 w1 hh hd hk K Z
 have s40 := Stab.v 7 1 hd hk []
 refine Stab.g s40 ?_
 have s41 := Stab.v 8 0 hd hk []
 clear hd
 replace x0 := cL hh.ext x0
 replace y0 := cL hh.ext y0
 replace y2 := cL hh.ext y2
 replace u0 := cL hh.ext u0
 go_simp
 exact Stab.k Z)
 apply Stab.tr 10 _ hf hok
 · (
 intro fr1 w1 hh hd hk K Z
 have s40 := Stab.v 7 2 hd hk []
 refine Stab.g s40 ?_
 have s5 := Stab.O hh s5
 clear hd
 go_simp
 exact Stab.k Z)
 apply Stab.tr 11 _ hf hok
 · (
 intro fr1 w1 hh hd hk K Z
 have s40 := Stab.v 7 3 hd hk []
 refine Stab.g s40 ?_
 have s42 := Stab.v 9 1 hd hk []
 have s43 := Stab.v 10 0 hd hk []
 clear hd
 go_simp
 try rw [if_pos (by omega)]
 exact Stab.k Z)
 apply Stab.tr 12 _ hf hok
 · (
 intro fr1 w1 hh hd hk K Z
 have s40 := Stab.v 7 4 hd hk []
 refine Stab.g s40 ?_
 have s44 := Stab.v 11 0 hd hk []
 clear hd
 go_simp
 exact Stab.k Z)
 apply Stab.tr 13 _ hf hok
 · (
 intro fr1 w1 hh hd hk K Z
 have s40 := Stab.v 7 5 hd hk []
 refine Stab.g s40 ?_
 have s45 := Stab.v 12 0 hd hk []
 clear hd
 replace x0 := cL hh.ext x0
 replace y0 := cL hh.ext y0
 replace y2 := cL hh.ext y2
 replace u0 := cL hh.ext u0
 go_simp
 exact Stab.k Z)
 apply Stab.tr 14 _ hf hok
 · (
 intro fr1 w1 hh hd hk K Z
 have s40 := Stab.v 7 6 hd hk []
 refine Stab.g s40 ?_
 have s3 := Stab.O hh s3
 clear hd
 go_simp
 exact Stab.k Z)
 apply Stab.tr 15 _ hf hok
 · (
 intro fr1 w1 hh hd hk K Z
 have s40 := Stab.v 7 7 hd hk []
 refine Stab.g s40 ?_
 have s46 := Stab.v 13 1 hd hk []
 have s47 := Stab.v 14 0 hd hk []
 clear hd
 go_simp
 exact Stab.k Z)
 apply Stab.tq 16 _ hf hok
 · (
 intro fr1 w1 hh hd hk K Z
 have s40 := Stab.v 7 8 hd hk []
 have s48 := Stab.v 15 0 hd hk []
 clear hd
 go_simp
 exact Stab.k Z)
 refine Stab.mN 17 16 0 hf hok [] ?_
 apply Stab.tr 18 _ hf hok
 · (
 intro fr1 w1 hh hd hk K Z
 have s50 := Stab.v 17 0 hd hk []
 refine Stab.g s50 ?_
 have s5 := Stab.O hh s5
 clear hd
 go_simp
 exact Stab.k Z)
 apply Stab.tr 19 _ hf hok
 · (
 intro fr1 w1 hh hd hk K Z
 have s50 := Stab.v 17 1 hd hk []
 refine Stab.g s50 ?_
 have s51 := Stab.v 18 0 hd hk []
 clear hd
 go_simp
 exact Stab.k Z)
 apply Stab.tr 20 _ hf hok
 · (
 intro fr1 w1 hh hd hk K Z
 have s50 := Stab.v 17 2 hd hk []
 refine Stab.g s50 ?_
 have s52 := Stab.v 19 0 hd hk []
 clear hd
 go_simp
 exact Stab.k Z)
 apply Stab.tr 21 _ hf hok
 · (
 intro fr1 w1 hh hd hk K Z
 have s53 := Stab.v 20 0 hd hk []
 refine Stab.g s53 ?_
 have s4 := Stab.O hh s4
 clear hd
 go_simp
 exact Stab.k Z)
 apply Stab.tr 22 _ hf hok
 · (
 intro fr1 w1 hh hd hk K Z
 have s53 := Stab.v 20 1 hd hk []
 refine Stab.g s53 ?_
 have s54 := Stab.v 21 0 hd hk []
 clear hd
 replace x0 := cL hh.ext x0
 replace y0 := cL hh.ext y0
 replace y2 := cL hh.ext y2
 replace u0 := cL hh.ext u0
 go_simp
 exact Stab.k Z)
 apply Stab.tr 23 _ hf hok
 · (
 intro fr1 w1 hh hd hk K Z
 have s53 := Stab.v 20 2 hd hk []
 refine Stab.g s53 ?_
 have s5 := Stab.O hh s5
 clear hd
 go_simp
 exact Stab.k Z)
 apply Stab.tr 24 _ hf hok
 · (
 intro fr1 w1 hh hd hk K Z
 have s53 := Stab.v 20 3 hd hk []
 refine Stab.g s53 ?_
 have s55 := Stab.v 22 1 hd hk []
 have s56 := Stab.v 23 0 hd hk []
 clear hd
 go_simp
 try rw [if_pos (by omega)]
 exact Stab.k Z)
 apply Stab.tr 25 _ hf hok
 · (
 intro fr1 w1 hh hd hk K Z
 have s53 := Stab.v 20 4 hd hk []
 refine Stab.g s53 ?_
 have s57 := Stab.v 24 0 hd hk []
 clear hd
 go_simp
 exact Stab.k Z)
 apply Stab.tr 26 _ hf hok
 · (
 intro fr1 w1 hh hd hk K Z
 have s53 := Stab.v 20 5 hd hk []
 refine Stab.g s53 ?_
 have s58 := Stab.v 25 0 hd hk []
 clear hd
 replace x0 := cL hh.ext x0
 replace y0 := cL hh.ext y0
 replace y2 := cL hh.ext y2
 replace u0 := cL hh.ext u0
 go_simp
 exact Stab.k Z)
 apply Stab.tr 27 _ hf hok
 · (
 intro fr1 w1 hh hd hk K Z
 have s53 := Stab.v 20 6 hd hk []
 refine Stab.g s53 ?_
 have s4 := Stab.O hh s4
 clear hd
 go_simp
 exact Stab.k Z)
 apply Stab.tr 28 _ hf hok
 · (
 intro fr1 w1 hh hd hk K Z
 have s53 := Stab.v 20 7 hd hk []
 refine Stab.g s53 ?_
 have s60 := Stab.v 27 0 hd hk []
 clear hd
 replace x0 := cL hh.ext x0
 replace y0 := cL hh.ext y0
 replace y2 := cL hh.ext y2
 replace u0 := cL hh.ext u0
 go_simp
 exact Stab.k Z)
 apply Stab.tr 29 _ hf hok
 · (
 intro fr1 w1 hh hd hk K Z
 have s53 := Stab.v 20 8 hd hk []
 refine Stab.g s53 ?_
 have s5 := Stab.O hh s5
 clear hd
 go_simp
 exact Stab.k Z)
 apply Stab.tr 30 _ hf hok
 · (
 intro fr1 w1 hh hd hk K Z
 have s53 := Stab.v 20 9 hd hk []
 refine Stab.g s53 ?_
 have s62 := Stab.v 29 0 hd hk []
 clear hd
 go_simp
 try simp (disch := omega) only [Fact.W]
 rw [HN1.out]
 exact Stab.k Z)
 apply Stab.tr 31 _ hf hok
 · (
 intro fr1 w1 hh hd hk K Z
 have s53 := Stab.v 20 10 hd hk []
 refine Stab.g s53 ?_
 have s61 := Stab.v 28 2 hd hk []
 have s63 := Stab.v 30 0 hd hk []
 clear hd
 go_simp
 try rw [if_pos (by omega)]
 exact Stab.k Z)
 apply Stab.tr 32 _ hf hok
 · (
 intro fr1 w1 hh hd hk K Z
 have s53 := Stab.v 20 11 hd hk []
 refine Stab.g s53 ?_
 have s64 := Stab.v 31 0 hd hk []
 clear hd
 go_simp
 exact Stab.k Z)
 apply Stab.tr 33 _ hf hok
 · (
 intro fr1 w1 hh hd hk K Z
 have s53 := Stab.v 20 12 hd hk []
 refine Stab.g s53 ?_
 have s65 := Stab.v 32 0 hd hk []
 clear hd
 replace x0 := cL hh.ext x0
 replace y0 := cL hh.ext y0
 replace y2 := cL hh.ext y2
 replace u0 := cL hh.ext u0
 go_simp
 exact Stab.k Z)
 apply Stab.tr 34 _ hf hok
 · (
 intro fr1 w1 hh hd hk K Z
 have s53 := Stab.v 20 13 hd hk []
 refine Stab.g s53 ?_
 have s59 := Stab.v 26 7 hd hk []
 have s66 := Stab.v 33 0 hd hk []
 clear hd
 go_simp
 exact Stab.k Z)
 apply Stab.tr 35 _ hf hok
 · (
 intro fr1 w1 hh hd hk K Z
 have s50 := Stab.v 17 17 hd hk []
 refine Stab.g s50 ?_
 have s53 := Stab.v 20 14 hd hk []
 have s67 := Stab.v 34 0 hd hk []
 clear hd
 go_simp
 exact Stab.k Z)
 apply Stab.tq 36 _ hf hok
 · (
 intro fr1 w1 hh hd hk K Z
 have s50 := Stab.v 17 18 hd hk []
 have s68 := Stab.v 35 0 hd hk []
 clear hd
 go_simp
 exact Stab.k Z)
 refine Stab.tf hf hok fun fr1 w1 hh hg => ?_
 replace s1 := Stab.O hh s1
 replace s3 := Stab.O hh s3
 replace s4 := Stab.O hh s4
 replace s5 := Stab.O hh s5
 have s69 := Stab.f 36 0 hg
 have hf1 := hh.fr hf
 have hx := hh.ext
 replace x0 := cL hx x0
 replace y0 := cL hx y0
 replace y2 := cL hx y2
 replace u0 := cL hx u0
 clear hg hh hf hok s30
 have hf := hf1; clear hf1
 refine nx (hK26 _ _ ?_)
 refine Fact.cond_f s69 ?_
 replace hb6 := hb6.trans (hx.mono hb6.size)
 have hbz := hbz0.trans (hb6.mono hbz0.size)
 have hoa3 : okArcs i (-1) s.arcs = okArcs i (lastB s.arcs (k + 1)) (s.arcs.drop (k + 1)) := by rw [HOA.out, HAT.out, HLN.out, HLB.out]; have := HC.out; rw [decide_eq_true (show 0 ≤ a.to by omega), decide_eq_true (show a.to < (i : Int) by omega), decide_eq_true (show (p.byte : Int) < (a.byte : Int) by omega)]; rfl
 have HOA3 := Lib.hid hoa3; clear hoa3
 refine wp_skip ?_
 refine Fact.block_normal ?_
 refine nx (hK25 _ _ ?_)
 refine rg ?_
 have b31 := hf.b 31
 have b32 := hf.b 32
 refine fp fun K Z => ?_
 go_simp
 apply Z.out; clear Z K
 refine fp fun K Z => ?_
 go_simp
 try simp (disch := omega) only [Fact.W]
 apply Z.out; clear Z K
 refine fp fun K Z => ?_
 go_simp
 apply Z.out; clear Z K
 refine Fact.z hf fun fr1 hf1 hT => ?_
 have hKp : _ ∧ _ ∧ _ ∧ _ := ⟨hT 1, hT 3, hT 4, hT 5⟩
 simp (decide := true) only [Fact.G, hf.size, reduceIte, s1, s3, s4] at hKp
 replace hf := hf1; clear hT hf1 s1 s3 s4 s5 s69 b31 b32
 obtain ⟨s1, s3, s4, s5⟩ := hKp
 refine Fact.then_normal ?_
 exact ⟨_, by have := HK2.out; omega, k + 1, rfl, by omega, hf, s1, s3, s4, by rw [s5]; rfl, HOA3.out, hb6⟩))
 · (
 have hke : k = s.arcs.length := by have h9 := of_decide_eq_false hq2; omega
 have hoa2 : okArcs i (-1) s.arcs = true := by rw [HOA.out, hke, List.drop_length]; rfl
 have HOA2 := Lib.hid hoa2; clear hoa2 hke hq2
 have hbr := hb.trans ((hb5.trans (hb6.mono hb5.size)).mono hb.size)
 refine wp_exit ?_
 refine Fact.then_exit ?_
 refine Fact.then_exit ?_
 refine Fact.block_exit ?_
 refine Fact.block_normal ?_
 refine nx (hK6 _ _ ?_)
 refine rg ?_
 have b11 := hf.b 11
 have b12 := hf.b 12
 refine fp fun K Z => ?_
 go_simp
 apply Z.out; clear Z K
 refine fp fun K Z => ?_
 go_simp
 try simp (disch := omega) only [Fact.W]
 apply Z.out; clear Z K
 refine fp fun K Z => ?_
 go_simp
 apply Z.out; clear Z K
 refine Fact.z hf fun fr1 hf1 hT => ?_
 have hKp : _ ∧ _ := ⟨hT 1, hT 3⟩
 simp (decide := true) only [Fact.G, hf.size, reduceIte, s1] at hKp
 replace hf := hf1; clear hT hf1 s1 s3 s4 s5 s30 b11 b12
 obtain ⟨s1, s3⟩ := hKp
 refine Fact.then_normal ?_
 exact ⟨_, by have := HK.out; omega, i + 1, rfl, by omega, hf, s1, by rw [s3]; rfl, by rw [HM.out, HST.out, HFO.out, HOA2.out]; rfl, hbr⟩))))
 · (
 have hie : i = ss.length := by have h9 := of_decide_eq_false hq; omega
 have HIE := Lib.hid hie; clear hie hq
 refine wp_exit ?_
 refine Fact.then_exit ?_
 refine Fact.then_exit ?_
 refine Fact.block_exit ?_
 refine nx (hK2 _ _ ?_)
 refine Fact.sq fun K27 hK27 => ?_
 refine rg ?_
 have b70 := hf.b 70
 have b71 := hf.b 71
 have b72 := hf.b 72
 have b73 := hf.b 73
 refine fp fun K Z => ?_
 go_simp
 apply Z.out; clear Z K
 refine fp fun K Z => ?_
 go_simp
 apply Z.out; clear Z K
 refine fp fun K Z => ?_
 go_simp
 apply Z.out; clear Z K
 refine fp fun K Z => ?_
 go_simp
 apply Z.out; clear Z K
 refine fp fun K Z => ?_
 go_simp
 apply Z.out; clear Z K
 refine Fact.z hf fun fr1 hf1 hT => ?_
 have hKp := hT 2
 simp (decide := true) only [Fact.G, hf.size, reduceIte] at hKp
 replace hf := hf1; clear hT hf1 s1 s3 s10 b70 b71 b72 b73
 have s2 := hKp; clear hKp
 refine nx (hK27 _ _ ?_)
 refine wp_ret ?_
 refine Fact.ret1 rfl hf s2 ⟨?_, hb0.trans (hb.mono hb0.size)⟩
 rw [formedF, HM.out, HIE.out, List.drop_length]
 rfl))
end Dw
end Go.Proofs.YtgjfhedgdbbinaaDoor
