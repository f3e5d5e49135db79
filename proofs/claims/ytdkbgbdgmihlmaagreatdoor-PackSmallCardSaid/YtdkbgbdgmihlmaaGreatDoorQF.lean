/- pack: dawg.Size. -/
import Derived.Test.YtdkbgbdgmihlmaaGreatDoorPRS
import Derived.Test.YtdkbgbdgmihlmaaGreatDoorTools
namespace Go.Proofs.YtdkbgbdgmihlmaaGreatDoor
open Go.RowKit
set_option linter.unusedSimpArgs false
set_option linter.unusedVariables false
set_option linter.unnecessarySimpa false
namespace Dw
set_option maxHeartbeats 4000000 in
set_option maxRecDepth 100000 in
theorem size47 (w : World) (sv : Value) (init : Nat) (ss : List State) (hrs : RS w sv ss) (hok : ∀ s ∈ ss, okS s) (hlen : ss.length ≤ 1000000) (hfew : ∀ s ∈ ss, s.arcs.length ≤ 1000) : Calls Tryz.prog 14 #[.agg #[sv, .int .u64 init]] w fun e w1 => e = .returned (.tuple #[.int .i64 ss.length, .int .i64 (arcCount ss : Nat)]) ∧ Below w.heap.size w w1 := by
 refine calls_of_wp Tryz.func14 rfl ?_
 refine Fact.en 23 fun fr hf hT => ?_
 have s0 := hT 0 _ rfl
 clear hT
 obtain ⟨A, cc, rfl, hcc⟩ := hrs.form
 have HO := Lib.hid hok; have HF := Lib.hid hfew; clear hok hfew
 refine Fact.sq fun K1 hK1 => ?_
 refine rg ?_
 iterate 3 (refine fp fun K Z => ?_; go_simp; apply Z.out; clear Z K)
 refine Fact.z hf fun fr1 hf1 hT => ?_
 have hKp : _ ∧ _ := ⟨hT 1, hT 3⟩
 simp (decide := true) only [Fact.G, hf.size, reduceIte] at hKp
 replace hf := hf1; clear hT hf1 s0
 obtain ⟨s1, s3⟩ := hKp
 obtain ⟨W0, hW0⟩ : ∃ W0, w.alloc (.cells #[.slice A ss.length cc, .int .u64 init] 33) = W0 := ⟨_, rfl⟩
 try rw [hW0]
 obtain ⟨hb0, c0, c1, -, -⟩ := box2 hW0
 clear hW0
 have hr0 := hrs.later hb0
 clear hrs
 refine nx (hK1 _ _ ?_)
 refine Fact.sq fun K2 hK2 => ?_
 refine Fact.sq fun K3 hK3 => ?_
 refine rg ?_
 have b6 := hf.b 6
 have b7 := hf.b 7
 iterate 4 (refine fp fun K Z => ?_; go_simp; apply Z.out; clear Z K)
 refine Fact.z hf fun fr1 hf1 hT => ?_
 have hKp : _ ∧ _ ∧ _ ∧ _ ∧ _ := ⟨hT 1, hT 3, hT 7, hT 8, hT 9⟩
 simp (decide := true) only [Fact.G, hf.size, reduceIte, s1, s3] at hKp
 replace hf := hf1; clear hT hf1 s1 s3 b6 b7
 obtain ⟨s1, s3, s7, s8, s9⟩ := hKp
 refine nx (hK3 _ _ ?_)
 refine wp_block ?_
 refine wp_loop_ghost (fun gk fr wr => ∃ (i : Nat), gk = ss.length - i ∧ i ≤ ss.length ∧ Fact.Fr 23 fr ∧ fr.tmps[1]? = some (.pointer (some ⟨w.heap.size, 0, none⟩)) ∧ fr.tmps[3]? = some (.int .i64 (arcCount (ss.take i) : Nat)) ∧ fr.tmps[7]? = some (.slice A ss.length cc) ∧ fr.tmps[8]? = some (.int .i64 ss.length) ∧ fr.tmps[9]? = some (.int .i64 i) ∧ Below W0.heap.size W0 wr) (ss.length) ?_ ?_
 · (
 exact ⟨0, rfl, Nat.zero_le _, hf, s1, s3, s7, s8, s9, Below.refl _ _⟩)
 · (
 clear hf s1 s3 s7 s8 s9
 rintro gk fr wr ⟨i, hk, hi, hf, s1, s3, s7, s8, s9, hb⟩
 have HK := Lib.hid hk; clear hk
 refine Fact.sq fun K4 hK4 => ?_
 refine rg ?_
 refine fp fun K Z => ?_
 go_simp
 apply Z.out; clear Z K
 refine Fact.z hf fun fr1 hf1 hT => ?_
 have hKp : _ ∧ _ ∧ _ ∧ _ ∧ _ ∧ _ := ⟨hT 1, hT 3, hT 7, hT 8, hT 9, hT 10⟩
 simp (decide := true) only [Fact.G, hf.size, reduceIte, s1, s3, s7, s8, s9] at hKp
 replace hf := hf1; clear hT hf1 s1 s3 s7 s8 s9
 obtain ⟨s1, s3, s7, s8, s9, s10⟩ := hKp
 refine nx (hK4 _ _ ?_)
 refine Fact.sq fun K5 hK5 => ?_
 refine Fact.cond_s s10 (fun hq => ?_) (fun hq => ?_)
 · (
 have hlt : i < ss.length := by have h9 := of_decide_eq_true hq; omega
 have HQ := Lib.hid hq; clear hq
 obtain ⟨s, his⟩ : ∃ s, ss[i]? = some s := ⟨_, List.getElem?_eq_getElem hlt⟩
 obtain ⟨b, off, av, rfl, hat⟩ := (hr0.later hb).at_ his
 have d0 := hat.c0; have d1 := hat.c1; have d2 := hat.c2
 obtain ⟨A2, c2, rfl, _⟩ := hat.arcs.form
 have hal := HF.out s (List.mem_of_getElem? his)
 have hst := arcCount_step his
 have hac := arcCount_le HF.out i
 have HS := Lib.hid his; have HST := Lib.hid hst; clear his hst hat
 refine wp_skip ?_
 refine nx (hK5 _ _ ?_)
 refine Fact.sq fun K6 hK6 => ?_
 refine wp_block ?_
 refine Fact.sq fun K7 hK7 => ?_
 refine rg ?_
 have b11 := hf.b 11
 have b12 := hf.b 12
 have b5 := hf.b 5
 refine fp fun K Z => ?_
 go_simp
 try rw [if_pos (by omega)]
 apply Z.out; clear Z K
 iterate 3 (refine fp fun K Z => ?_; go_simp; apply Z.out; clear Z K)
 refine Fact.z hf fun fr1 hf1 hT => ?_
 have hKp : _ ∧ _ ∧ _ ∧ _ ∧ _ ∧ _ := ⟨hT 1, hT 3, hT 5, hT 7, hT 8, hT 9⟩
 simp (decide := true) only [Fact.G, hf.size, reduceIte, s1, s3, s7, s8, s9] at hKp
 replace hf := hf1; clear hT hf1 s1 s3 s7 s8 s9 s10 b11 b12 b5
 obtain ⟨s1, s3, s5, s7, s8, s9⟩ := hKp
 obtain ⟨W5, hW5⟩ : ∃ W0, wr.alloc (.cells #[.slice A2 s.arcs.length c2, .bool s.final, .int .u64 s.out] 58) = W0 := ⟨_, rfl⟩
 try rw [hW5]
 obtain ⟨hb5, x0, -, -, -, -⟩ := box3 hW5
 clear hW5
 clear d0 d1 d2
 refine nx (hK7 _ _ ?_)
 refine rg ?_
 have b13 := hf.b 13
 have b14 := hf.b 14
 have b15 := hf.b 15
 have b16 := hf.b 16
 have b17 := hf.b 17
 iterate 4 (refine fp fun K Z => ?_; go_simp; apply Z.out; clear Z K)
 refine fp fun K Z => ?_
 go_simp
 try simp (disch := omega) only [Fact.W]
 rw [show ((arcCount (ss.take i) : Nat) : Int) + (s.arcs.length : Int) = ((arcCount (ss.take (i + 1)) : Nat) : Int) by rw [HST.out]; omega]
 apply Z.out; clear Z K
 refine fp fun K Z => ?_
 go_simp
 apply Z.out; clear Z K
 refine Fact.z hf fun fr1 hf1 hT => ?_
 have hKp : _ ∧ _ ∧ _ ∧ _ ∧ _ := ⟨hT 1, hT 3, hT 7, hT 8, hT 9⟩
 simp (decide := true) only [Fact.G, hf.size, reduceIte, s1, s7, s8, s9] at hKp
 replace hf := hf1; clear hT hf1 s1 s3 s5 s7 s8 s9 b13 b14 b15 b16 b17
 obtain ⟨s1, s3, s7, s8, s9⟩ := hKp
 refine Fact.block_normal ?_
 refine nx (hK6 _ _ ?_)
 refine rg ?_
 have b18 := hf.b 18
 refine fp fun K Z => ?_
 go_simp
 try simp (disch := omega) only [Fact.W]
 apply Z.out; clear Z K
 refine fp fun K Z => ?_
 go_simp
 apply Z.out; clear Z K
 refine Fact.z hf fun fr1 hf1 hT => ?_
 have hKp : _ ∧ _ ∧ _ ∧ _ ∧ _ := ⟨hT 1, hT 3, hT 7, hT 8, hT 9⟩
 simp (decide := true) only [Fact.G, hf.size, reduceIte, s1, s3, s7, s8] at hKp
 replace hf := hf1; clear hT hf1 s1 s3 s7 s8 s9 b18
 obtain ⟨s1, s3, s7, s8, s9⟩ := hKp
 refine Fact.then_normal ?_
 exact ⟨_, by have := HK.out; omega, i + 1, rfl, by omega, hf, s1, s3, s7, s8, by rw [s9]; rfl, hb.trans (hb5.mono hb.size)⟩)
 · (
 have hie : i = ss.length := by have h9 := of_decide_eq_false hq; omega
 have HIE := Lib.hid hie; clear hie hq
 have e0 := cL hb c0
 refine wp_exit ?_
 refine Fact.then_exit ?_
 refine Fact.then_exit ?_
 refine Fact.block_exit ?_
 refine nx (hK2 _ _ ?_)
 refine Fact.sq fun K8 hK8 => ?_
 refine rg ?_
 have b19 := hf.b 19
 have b20 := hf.b 20
 have b21 := hf.b 21
 have b22 := hf.b 22
 iterate 6 (refine fp fun K Z => ?_; go_simp; apply Z.out; clear Z K)
 refine Fact.z hf fun fr1 hf1 hT => ?_
 have hKp : _ ∧ _ := ⟨hT 2, hT 3⟩
 simp (decide := true) only [Fact.G, hf.size, reduceIte] at hKp
 replace hf := hf1; clear hT hf1 s1 s3 s7 s8 s9 s10 b19 b20 b21 b22
 obtain ⟨s2, s3⟩ := hKp
 refine nx (hK8 _ _ ?_)
 refine wp_ret ?_
 refine Fact.ret2 rfl hf s2 s3 ⟨?_, hb0.trans (hb.mono hb0.size)⟩
 rw [HIE.out, List.take_length]))
end Dw
end Go.Proofs.YtdkbgbdgmihlmaaGreatDoor

namespace Go.Proofs.YtdkbgbdgmihlmaaGreatDoor
open Go.RowKit
set_option linter.unusedSimpArgs false
set_option linter.unusedVariables false
set_option linter.unnecessarySimpa false
namespace Dw

def okTo (i : Nat) : List Arc → Bool
  | [] => true
  | a :: l => decide (0 ≤ a.to) && decide (a.to < (i : Int)) && okTo i l
def mayL : Nat → List State → Bool
  | _, [] => true
  | i, s :: l => (decide (s.arcs.length ≤ 256) && (s.final || decide (s.out = 0))) && okTo i s.arcs && mayL (i + 1) l
/-- what may be laid -/
def mayF (en : Int) (ss : List State) : Bool := decide (0 ≤ en) && decide (en ≤ 100000) && decide (0 < ss.length) && mayL 0 ss
theorem drop_get {α : Type} {l : List α} {i : Nat} {x : α} (h : l[i]? = some x) : l.drop i = x :: l.drop (i + 1) := by
  obtain ⟨h1, h2⟩ := List.getElem?_eq_some_iff.1 h
  rw [List.drop_eq_getElem_cons h1, h2]
theorem mayL_step {ss : List State} {i : Nat} {s : State} (h : ss[i]? = some s) : mayL i (ss.drop i) = ((decide (s.arcs.length ≤ 256) && (s.final || decide (s.out = 0))) && okTo i s.arcs && mayL (i + 1) (ss.drop (i + 1))) := by rw [drop_get h]; rfl
theorem okTo_step {l : List Arc} {i k : Nat} {a : Arc} (h : l[k]? = some a) : okTo i (l.drop k) = (decide (0 ≤ a.to) && decide (a.to < (i : Int)) && okTo i (l.drop (k + 1))) := by rw [drop_get h]; rfl
theorem may_cases (en : Int) (n : Nat) : en < 0 ∨ (0 ≤ en ∧ 100000 < en) ∨ (0 ≤ en ∧ en ≤ 100000 ∧ n = 0) ∨ (0 ≤ en ∧ en ≤ 100000 ∧ 0 < n) := by omega
theorem to_cases (t i : Int) : t < 0 ∨ (0 ≤ t ∧ i ≤ t) ∨ (0 ≤ t ∧ t < i) := by omega
theorem fin_cases (s : State) : 256 < s.arcs.length ∨ (s.arcs.length ≤ 256 ∧ s.final = true) ∨ (s.arcs.length ≤ 256 ∧ s.final = false) := by
  rcases s.final with _ | _ <;> simp <;> omega
set_option maxHeartbeats 4000000 in
set_option maxRecDepth 100000 in
theorem may28 (w : World) (en : Int) (sv : Value) (init : Nat) (ss : List State) (hrs : RS w sv ss) (hok : ∀ s ∈ ss, okS s) (hlen : ss.length ≤ 1000000) (hfew : ∀ s ∈ ss, s.arcs.length ≤ 1000) : Calls Tryz.prog 26 #[.int .i64 en, .agg #[sv, .int .u64 init]] w fun e w1 => e = .returned (.bool (mayF en ss)) ∧ Below w.heap.size w w1 := by
 refine calls_of_wp Tryz.func26 rfl ?_
 refine Fact.en 66 fun fr hf hT => ?_
 have s0 := hT 0 _ rfl
 have s1 := hT 1 _ rfl
 clear hT
 obtain ⟨A, cc, rfl, hcc⟩ := hrs.form
 have HO := Lib.hid hok; have HF := Lib.hid hfew; clear hok hfew
 refine Fact.sq fun K1 hK1 => ?_
 refine rg ?_
 iterate 2 (refine fp fun K Z => ?_; go_simp; apply Z.out; clear Z K)
 refine Fact.z hf fun fr1 hf1 hT => ?_
 have hKp : _ ∧ _ := ⟨hT 0, hT 3⟩
 simp (decide := true) only [Fact.G, hf.size, reduceIte, s0] at hKp
 replace hf := hf1; clear hT hf1 s0 s1
 obtain ⟨s0, s3⟩ := hKp
 obtain ⟨W0, hW0⟩ : ∃ W0, w.alloc (.cells #[.slice A ss.length cc, .int .u64 init] 33) = W0 := ⟨_, rfl⟩
 try rw [hW0]
 obtain ⟨hb0, c0, c1, -, -⟩ := box2 hW0
 clear hW0
 have hr0 := hrs.later hb0
 clear hrs
 refine nx (hK1 _ _ ?_)
 refine Fact.sq fun K2 hK2 => ?_
 refine rg ?_
 have b12 := hf.b 12
 have b13 := hf.b 13
 have b11 := hf.b 11
 have b14 := hf.b 14
 have b15 := hf.b 15
 refine fp fun K Z => ?_
 go_simp
 apply Z.out; clear Z K
 refine fp fun K Z => ?_
 go_simp
 go_at_call 14; refine (size47 W0 _ init ss hr0 HO.out hlen HF.out).mono ?_; rintro e w1 ⟨rfl, hb1⟩
 try dsimp only
 apply Z.out; clear Z K
 iterate 5 (refine fp fun K Z => ?_; go_simp; apply Z.out; clear Z K)
 refine Fact.z hf fun fr1 hf1 hT => ?_
 have hKp : _ ∧ _ ∧ _ := ⟨hT 0, hT 3, hT 5⟩
 simp (decide := true) only [Fact.G, hf.size, reduceIte, s0, s3] at hKp
 replace hf := hf1; clear hT hf1 s0 s3 b12 b13 b11 b14 b15
 obtain ⟨s0, s3, s5⟩ := hKp
 have hr1 := hr0.later hb1
 have e0 := cL hb1 c0
 have e1 := cL hb1 c1
 have hbz0 := hb0.trans (hb1.mono hb0.size)
 clear hr0 c0 c1
 refine nx (hK2 _ _ ?_)
 rcases may_cases en ss.length with hc | hc | hc | hc
 · (
 have q1 : decide (en < 0) = true := decide_eq_true hc
 have HC := Lib.hid hc; clear hc
 refine Fact.sq fun K3 hK3 => ?_
 refine Fact.sq fun K4 hK4 => ?_
 refine rg ?_
 have b16 := hf.b 16
 have b17 := hf.b 17
 have b18 := hf.b 18
 have b19 := hf.b 19
 have b20 := hf.b 20
 have b21 := hf.b 21
 have b22 := hf.b 22
 have b23 := hf.b 23
 have b24 := hf.b 24
 iterate 3 (refine fp fun K Z => ?_; go_simp; apply Z.out; clear Z K)
 refine sk 2 18 false ?_ ?_
 · (
 simp (decide := true) only [Fact.G, reduceIte, hf.size, q1, Fact.N])
 refine sk 2 18 false ?_ ?_
 · (
 simp (decide := true) only [Fact.G, reduceIte, hf.size, q1, Fact.N])
 iterate 2 (refine fp fun K Z => ?_; go_simp; apply Z.out; clear Z K)
 refine sk 6 22 false ?_ ?_
 · (
 simp (decide := true) only [Fact.G, reduceIte, hf.size, q1, Fact.N])
 refine sk 6 22 false ?_ ?_
 · (
 simp (decide := true) only [Fact.G, reduceIte, hf.size, q1, Fact.N])
 refine fp fun K Z => ?_
 go_simp
 apply Z.out; clear Z K
 refine Fact.z hf fun fr1 hf1 hT => ?_
 have hKp : _ ∧ _ := ⟨hT 3, hT 25⟩
 simp (decide := true) only [Fact.G, hf.size, reduceIte, s3] at hKp
 replace hf := hf1; clear hT hf1 s0 s3 s5 b16 b17 b18 b19 b20 b21 b22 b23 b24
 obtain ⟨s3, s25⟩ := hKp
 refine nx (hK4 _ _ ?_)
 refine Fact.cond_t s25 ?_
 have hbad : mayF en ss = false := by unfold mayF; have := HC.out; rw [decide_eq_false (show ¬ 0 ≤ en by omega)]; rfl
 have HBAD := Lib.hid hbad; clear hbad
 refine Fact.sq fun K5 hK5 => ?_
 refine rg ?_
 refine fp fun K Z => ?_
 go_simp
 apply Z.out; clear Z K
 refine Fact.z hf fun fr1 hf1 hT => ?_
 have hKp := hT 4
 simp (decide := true) only [Fact.G, hf.size, reduceIte] at hKp
 replace hf := hf1; clear hT hf1 s3 s25
 have s4 := hKp; clear hKp
 refine nx (hK5 _ _ ?_)
 refine wp_ret ?_
 refine Fact.then_ret ?_
 exact Fact.ret1 rfl hf s4 ⟨by rw [HBAD.out], hbz0⟩)
 · (
 have q1 : decide (en < 0) = false := decide_eq_false (by omega)
 have q2 : decide ((100000 : Int) < en) = true := decide_eq_true hc.2
 have HC := Lib.hid hc; clear hc
 refine Fact.sq fun K6 hK6 => ?_
 refine Fact.sq fun K7 hK7 => ?_
 refine rg ?_
 have b16 := hf.b 16
 have b17 := hf.b 17
 have b18 := hf.b 18
 have b19 := hf.b 19
 have b20 := hf.b 20
 have b21 := hf.b 21
 have b22 := hf.b 22
 have b23 := hf.b 23
 have b24 := hf.b 24
 iterate 3 (refine fp fun K Z => ?_; go_simp; apply Z.out; clear Z K)
 refine og 2 18 false ?_ fun K Z => ?_
 · (
 simp (decide := true) only [Fact.G, reduceIte, hf.size, q1, q2])
 go_simp
 apply Z.out; clear Z K
 refine og 2 18 false ?_ fun K Z => ?_
 · (
 simp (decide := true) only [Fact.G, reduceIte, hf.size, q1, q2])
 go_simp
 apply Z.out; clear Z K
 iterate 2 (refine fp fun K Z => ?_; go_simp; apply Z.out; clear Z K)
 refine sk 6 22 false ?_ ?_
 · (
 simp (decide := true) only [Fact.G, reduceIte, hf.size, q1, q2, Fact.N])
 refine sk 6 22 false ?_ ?_
 · (
 simp (decide := true) only [Fact.G, reduceIte, hf.size, q1, q2, Fact.N])
 refine fp fun K Z => ?_
 go_simp
 apply Z.out; clear Z K
 refine Fact.z hf fun fr1 hf1 hT => ?_
 have hKp : _ ∧ _ := ⟨hT 3, hT 25⟩
 simp (decide := true) only [Fact.G, hf.size, reduceIte, s3] at hKp
 replace hf := hf1; clear hT hf1 s0 s3 s5 b16 b17 b18 b19 b20 b21 b22 b23 b24
 obtain ⟨s3, s25⟩ := hKp
 refine nx (hK7 _ _ ?_)
 refine Fact.cond_t s25 ?_
 have hbad : mayF en ss = false := by unfold mayF; have := HC.out; rw [decide_eq_true (show 0 ≤ en by omega), decide_eq_false (show ¬ en ≤ 100000 by omega)]; rfl
 have HBAD := Lib.hid hbad; clear hbad
 refine Fact.sq fun K8 hK8 => ?_
 refine rg ?_
 refine fp fun K Z => ?_
 go_simp
 apply Z.out; clear Z K
 refine Fact.z hf fun fr1 hf1 hT => ?_
 have hKp := hT 4
 simp (decide := true) only [Fact.G, hf.size, reduceIte] at hKp
 replace hf := hf1; clear hT hf1 s3 s25
 have s4 := hKp; clear hKp
 refine nx (hK8 _ _ ?_)
 refine wp_ret ?_
 refine Fact.then_ret ?_
 exact Fact.ret1 rfl hf s4 ⟨by rw [HBAD.out], hbz0⟩)
 · (
 have q1 : decide (en < 0) = false := decide_eq_false (by omega)
 have q2 : decide ((100000 : Int) < en) = false := decide_eq_false (by omega)
 have q3 : ((ss.length : Int) == 0) = true := beq_iff_eq.2 (by omega)
 have HC := Lib.hid hc; clear hc
 refine Fact.sq fun K9 hK9 => ?_
 refine Fact.sq fun K10 hK10 => ?_
 refine rg ?_
 have b16 := hf.b 16
 have b17 := hf.b 17
 have b18 := hf.b 18
 have b19 := hf.b 19
 have b20 := hf.b 20
 have b21 := hf.b 21
 have b22 := hf.b 22
 have b23 := hf.b 23
 have b24 := hf.b 24
 iterate 3 (refine fp fun K Z => ?_; go_simp; apply Z.out; clear Z K)
 refine og 2 18 false ?_ fun K Z => ?_
 · (
 simp (decide := true) only [Fact.G, reduceIte, hf.size, q1, q2, q3])
 go_simp
 apply Z.out; clear Z K
 refine og 2 18 false ?_ fun K Z => ?_
 · (
 simp (decide := true) only [Fact.G, reduceIte, hf.size, q1, q2, q3])
 go_simp
 apply Z.out; clear Z K
 iterate 2 (refine fp fun K Z => ?_; go_simp; apply Z.out; clear Z K)
 refine og 6 22 false ?_ fun K Z => ?_
 · (
 simp (decide := true) only [Fact.G, reduceIte, hf.size, q1, q2, q3])
 go_simp
 apply Z.out; clear Z K
 refine og 6 22 false ?_ fun K Z => ?_
 · (
 simp (decide := true) only [Fact.G, reduceIte, hf.size, q1, q2, q3])
 go_simp
 apply Z.out; clear Z K
 refine fp fun K Z => ?_
 go_simp
 apply Z.out; clear Z K
 refine Fact.z hf fun fr1 hf1 hT => ?_
 have hKp : _ ∧ _ := ⟨hT 3, hT 25⟩
 simp (decide := true) only [Fact.G, hf.size, reduceIte, s3] at hKp
 replace hf := hf1; clear hT hf1 s0 s3 s5 b16 b17 b18 b19 b20 b21 b22 b23 b24
 obtain ⟨s3, s25⟩ := hKp
 refine nx (hK10 _ _ ?_)
 refine Fact.cond_t s25 ?_
 have hbad : mayF en ss = false := by unfold mayF; have := HC.out; rw [decide_eq_false (show ¬ 0 < ss.length by omega)]; simp
 have HBAD := Lib.hid hbad; clear hbad
 refine Fact.sq fun K11 hK11 => ?_
 refine rg ?_
 refine fp fun K Z => ?_
 go_simp
 apply Z.out; clear Z K
 refine Fact.z hf fun fr1 hf1 hT => ?_
 have hKp := hT 4
 simp (decide := true) only [Fact.G, hf.size, reduceIte] at hKp
 replace hf := hf1; clear hT hf1 s3 s25
 have s4 := hKp; clear hKp
 refine nx (hK11 _ _ ?_)
 refine wp_ret ?_
 refine Fact.then_ret ?_
 exact Fact.ret1 rfl hf s4 ⟨by rw [HBAD.out], hbz0⟩)
 · (
 have q1 : decide (en < 0) = false := decide_eq_false (by omega)
 have q2 : decide ((100000 : Int) < en) = false := decide_eq_false (by omega)
 have q3 : ((ss.length : Int) == 0) = false := beq_eq_false_iff_ne.2 (by omega)
 have HC := Lib.hid hc; clear hc
 refine Fact.sq fun K12 hK12 => ?_
 refine Fact.sq fun K13 hK13 => ?_
 refine rg ?_
 have b16 := hf.b 16
 have b17 := hf.b 17
 have b18 := hf.b 18
 have b19 := hf.b 19
 have b20 := hf.b 20
 have b21 := hf.b 21
 have b22 := hf.b 22
 have b23 := hf.b 23
 have b24 := hf.b 24
 iterate 3 (refine fp fun K Z => ?_; go_simp; apply Z.out; clear Z K)
 refine og 2 18 false ?_ fun K Z => ?_
 · (
 simp (decide := true) only [Fact.G, reduceIte, hf.size, q1, q2, q3])
 go_simp
 apply Z.out; clear Z K
 refine og 2 18 false ?_ fun K Z => ?_
 · (
 simp (decide := true) only [Fact.G, reduceIte, hf.size, q1, q2, q3])
 go_simp
 apply Z.out; clear Z K
 iterate 2 (refine fp fun K Z => ?_; go_simp; apply Z.out; clear Z K)
 refine og 6 22 false ?_ fun K Z => ?_
 · (
 simp (decide := true) only [Fact.G, reduceIte, hf.size, q1, q2, q3])
 go_simp
 apply Z.out; clear Z K
 refine og 6 22 false ?_ fun K Z => ?_
 · (
 simp (decide := true) only [Fact.G, reduceIte, hf.size, q1, q2, q3])
 go_simp
 apply Z.out; clear Z K
 refine fp fun K Z => ?_
 go_simp
 apply Z.out; clear Z K
 refine Fact.z hf fun fr1 hf1 hT => ?_
 have hKp : _ ∧ _ := ⟨hT 3, hT 25⟩
 simp (decide := true) only [Fact.G, hf.size, reduceIte, s3] at hKp
 replace hf := hf1; clear hT hf1 s0 s3 s5 b16 b17 b18 b19 b20 b21 b22 b23 b24
 obtain ⟨s3, s25⟩ := hKp
 refine nx (hK13 _ _ ?_)
 refine Fact.cond_f s25 ?_
 have hen : mayF en ss = mayL 0 ss := by unfold mayF; have := HC.out; rw [decide_eq_true (show 0 ≤ en by omega), decide_eq_true (show en ≤ 100000 by omega), decide_eq_true (show 0 < ss.length by omega)]; rfl
 have HM0 := Lib.hid hen; clear hen
 refine wp_skip ?_
 refine nx (hK12 _ _ ?_)
 refine Fact.sq fun K14 hK14 => ?_
 refine Fact.sq fun K15 hK15 => ?_
 refine rg ?_
 have b26 := hf.b 26
 have b27 := hf.b 27
 iterate 4 (refine fp fun K Z => ?_; go_simp; apply Z.out; clear Z K)
 refine Fact.z hf fun fr1 hf1 hT => ?_
 have hKp : _ ∧ _ ∧ _ := ⟨hT 27, hT 28, hT 29⟩
 simp (decide := true) only [Fact.G, hf.size, reduceIte] at hKp
 replace hf := hf1; clear hT hf1 s3 s25 b26 b27
 obtain ⟨s27, s28, s29⟩ := hKp
 refine nx (hK15 _ _ ?_)
 refine wp_block ?_
 refine wp_loop_ghost (fun gk fr wr => ∃ (i : Nat), gk = ss.length - i ∧ i ≤ ss.length ∧ Fact.Fr 66 fr ∧ fr.tmps[27]? = some (.slice A ss.length cc) ∧ fr.tmps[28]? = some (.int .i64 ss.length) ∧ fr.tmps[29]? = some (.int .i64 i) ∧ mayL 0 ss = mayL i (ss.drop i) ∧ Below w1.heap.size w1 wr) (ss.length) ?_ ?_
 · (
 exact ⟨0, rfl, Nat.zero_le _, hf, s27, s28, s29, rfl, Below.refl _ _⟩)
 · (
 clear hf s27 s28 s29
 rintro gk fr wr ⟨i, hk, hi, hf, s27, s28, s29, hfm, hb⟩
 have HK := Lib.hid hk; have HM := Lib.hid hfm; clear hk hfm
 refine Fact.sq fun K16 hK16 => ?_
 refine rg ?_
 refine fp fun K Z => ?_
 go_simp
 apply Z.out; clear Z K
 refine Fact.z hf fun fr1 hf1 hT => ?_
 have hKp : _ ∧ _ ∧ _ ∧ _ := ⟨hT 27, hT 28, hT 29, hT 30⟩
 simp (decide := true) only [Fact.G, hf.size, reduceIte, s27, s28, s29] at hKp
 replace hf := hf1; clear hT hf1 s27 s28 s29
 obtain ⟨s27, s28, s29, s30⟩ := hKp
 refine nx (hK16 _ _ ?_)
 refine Fact.sq fun K17 hK17 => ?_
 refine Fact.cond_s s30 (fun hq => ?_) (fun hq => ?_)
 · (
 have hlt : i < ss.length := by have h9 := of_decide_eq_true hq; omega
 have HQ := Lib.hid hq; clear hq
 obtain ⟨s, his⟩ : ∃ s, ss[i]? = some s := ⟨_, List.getElem?_eq_getElem hlt⟩
 obtain ⟨b, off, av, rfl, hat⟩ := (hr1.later hb).at_ his
 have d0 := hat.c0; have d1 := hat.c1; have d2 := hat.c2
 have hra := hat.arcs
 obtain ⟨A2, c2, rfl, _⟩ := hat.arcs.form
 have hos := HO.out s (List.mem_of_getElem? his)
 have hst := mayL_step his
 have HS := Lib.hid his; have HST := Lib.hid hst; clear his hst hat
 have hal := hos.2.1
 refine wp_skip ?_
 refine nx (hK17 _ _ ?_)
 refine Fact.sq fun K18 hK18 => ?_
 refine wp_block ?_
 refine Fact.sq fun K19 hK19 => ?_
 refine rg ?_
 have b31 := hf.b 31
 have b32 := hf.b 32
 have b33 := hf.b 33
 have b8 := hf.b 8
 refine fp fun K Z => ?_
 go_simp
 apply Z.out; clear Z K
 refine fp fun K Z => ?_
 go_simp
 try rw [if_pos (by omega)]
 apply Z.out; clear Z K
 iterate 4 (refine fp fun K Z => ?_; go_simp; apply Z.out; clear Z K)
 refine Fact.z hf fun fr1 hf1 hT => ?_
 have hKp : _ ∧ _ ∧ _ ∧ _ ∧ _ := ⟨hT 7, hT 8, hT 27, hT 28, hT 29⟩
 simp (decide := true) only [Fact.G, hf.size, reduceIte, s27, s28, s29] at hKp
 replace hf := hf1; clear hT hf1 s27 s28 s29 s30 b31 b32 b33 b8
 obtain ⟨s7, s8, s27, s28, s29⟩ := hKp
 obtain ⟨W5, hW5⟩ : ∃ W0, wr.alloc (.cells #[.slice A2 s.arcs.length c2, .bool s.final, .int .u64 s.out] 58) = W0 := ⟨_, rfl⟩
 try rw [hW5]
 obtain ⟨hb5, x0, x1, x2, -, -⟩ := box3 hW5
 clear hW5
 clear d0 d1 d2
 have hra5 := hra.later hb5
 clear hra
 have hbr0 := hb.trans (hb5.mono hb.size)
 have hbz1 := hbz0.trans (hbr0.mono hbz0.size)
 refine nx (hK19 _ _ ?_)
 refine Fact.seq_meet (fun fr wq => Fact.Fr 66 fr ∧ fr.tmps[7]? = some (.int .i64 i) ∧ fr.tmps[8]? = some (.pointer (some ⟨wr.heap.size, 0, none⟩)) ∧ fr.tmps[27]? = some (.slice (some ⟨b, off, none⟩) ss.length cc) ∧ fr.tmps[28]? = some (.int .i64 ss.length) ∧ fr.tmps[29]? = some (.int .i64 i) ∧ wq = W5 ∧ (decide (s.arcs.length ≤ 256) && (s.final || decide (s.out = 0))) = true) ?_ ?_
 · (
 rcases fin_cases s with hfin | hfin | hfin
 · (
 have q0 : decide ((256 : Int) < (s.arcs.length : Int)) = true := decide_eq_true (by omega)
 have HFI := Lib.hid hfin; clear hfin
 refine Fact.sq fun K20 hK20 => ?_
 refine rg ?_
 have b34 := hf.b 34
 have b35 := hf.b 35
 have b36 := hf.b 36
 have b37 := hf.b 37
 have b38 := hf.b 38
 have b39 := hf.b 39
 have b40 := hf.b 40
 have b41 := hf.b 41
 have b42 := hf.b 42
 have b43 := hf.b 43
 have b44 := hf.b 44
 have b45 := hf.b 45
 have b46 := hf.b 46
 iterate 5 (refine fp fun K Z => ?_; go_simp; apply Z.out; clear Z K)
 refine sk 4 38 false ?_ ?_
 · (
 simp (decide := true) only [Fact.G, reduceIte, hf.size, q0, Fact.N])
 refine sk 4 38 false ?_ ?_
 · (
 simp (decide := true) only [Fact.G, reduceIte, hf.size, q0, Fact.N])
 refine sk 4 38 false ?_ ?_
 · (
 simp (decide := true) only [Fact.G, reduceIte, hf.size, q0, Fact.N])
 refine sk 4 38 false ?_ ?_
 · (
 simp (decide := true) only [Fact.G, reduceIte, hf.size, q0, Fact.N])
 refine sku 8 42 true ?_ ?_
 · (
 simp (decide := true) only [Fact.G, reduceIte, hf.size, q0, Fact.N])
 refine sku 8 42 true ?_ ?_
 · (
 simp (decide := true) only [Fact.G, reduceIte, hf.size, q0, Fact.N])
 refine sku 8 42 true ?_ ?_
 · (
 simp (decide := true) only [Fact.G, reduceIte, hf.size, q0, Fact.N])
 refine sk 4 38 false ?_ ?_
 · (
 simp (decide := true) only [Fact.G, reduceIte, hf.size, q0, Fact.N])
 refine fp fun K Z => ?_
 go_simp
 apply Z.out; clear Z K
 refine Fact.z hf fun fr1 hf1 hT => ?_
 have hKp : _ ∧ _ ∧ _ ∧ _ ∧ _ ∧ _ := ⟨hT 7, hT 8, hT 27, hT 28, hT 29, hT 47⟩
 simp (decide := true) only [Fact.G, hf.size, reduceIte, s7, s8, s27, s28, s29] at hKp
 replace hf := hf1; clear hT hf1 s7 s8 s27 s28 s29 b34 b35 b36 b37 b38 b39 b40 b41 b42 b43 b44 b45 b46
 obtain ⟨s7, s8, s27, s28, s29, s47⟩ := hKp
 refine nx (hK20 _ _ ?_)
 refine Fact.cond_t s47 ?_
 have hbad : mayF en ss = false := by rw [HM0.out, HM.out, HST.out]; have := HFI.out; rw [decide_eq_false (show ¬ s.arcs.length ≤ 256 by omega)]; rfl
 have HBAD := Lib.hid hbad; clear hbad
 refine Fact.sq fun K21 hK21 => ?_
 refine rg ?_
 refine fp fun K Z => ?_
 go_simp
 apply Z.out; clear Z K
 refine Fact.z hf fun fr1 hf1 hT => ?_
 have hKp := hT 4
 simp (decide := true) only [Fact.G, hf.size, reduceIte] at hKp
 replace hf := hf1; clear hT hf1 s7 s8 s27 s28 s29 s47
 have s4 := hKp; clear hKp
 refine nx (hK21 _ _ ?_)
 refine wp_ret ?_
 refine Fact.then_ret ?_
 refine Fact.block_ret ?_
 refine Fact.then_ret ?_
 refine Fact.then_ret ?_
 refine Fact.block_ret ?_
 refine Fact.then_ret ?_
 exact Fact.ret1 rfl hf s4 ⟨by rw [HBAD.out], hbz1⟩)
 · (
 have q0 : decide ((256 : Int) < (s.arcs.length : Int)) = false := decide_eq_false (by omega)
 have q1 := hfin.2
 have HFI := Lib.hid hfin; clear hfin
 refine Fact.sq fun K22 hK22 => ?_
 refine rg ?_
 have b34 := hf.b 34
 have b35 := hf.b 35
 have b36 := hf.b 36
 have b37 := hf.b 37
 have b38 := hf.b 38
 have b39 := hf.b 39
 have b40 := hf.b 40
 have b41 := hf.b 41
 have b42 := hf.b 42
 have b43 := hf.b 43
 have b44 := hf.b 44
 have b45 := hf.b 45
 have b46 := hf.b 46
 iterate 5 (refine fp fun K Z => ?_; go_simp; apply Z.out; clear Z K)
 refine og 4 38 false ?_ fun K Z => ?_
 · (
 simp (decide := true) only [Fact.G, reduceIte, hf.size, q0, q1, Fact.N])
 go_simp
 apply Z.out; clear Z K
 refine og 4 38 false ?_ fun K Z => ?_
 · (
 simp (decide := true) only [Fact.G, reduceIte, hf.size, q0, q1, Fact.N])
 go_simp
 apply Z.out; clear Z K
 refine og 4 38 false ?_ fun K Z => ?_
 · (
 simp (decide := true) only [Fact.G, reduceIte, hf.size, q0, q1, Fact.N])
 go_simp
 apply Z.out; clear Z K
 refine og 4 38 false ?_ fun K Z => ?_
 · (
 simp (decide := true) only [Fact.G, reduceIte, hf.size, q0, q1, Fact.N])
 go_simp
 apply Z.out; clear Z K
 refine sk 8 42 true ?_ ?_
 · (
 simp (decide := true) only [Fact.G, reduceIte, hf.size, q0, q1, Fact.N])
 refine sk 8 42 true ?_ ?_
 · (
 simp (decide := true) only [Fact.G, reduceIte, hf.size, q0, q1, Fact.N])
 refine sk 8 42 true ?_ ?_
 · (
 simp (decide := true) only [Fact.G, reduceIte, hf.size, q0, q1, Fact.N])
 refine og 4 38 false ?_ fun K Z => ?_
 · (
 simp (decide := true) only [Fact.G, reduceIte, hf.size, q0, q1, Fact.N])
 go_simp
 apply Z.out; clear Z K
 refine fp fun K Z => ?_
 go_simp
 apply Z.out; clear Z K
 refine Fact.z hf fun fr1 hf1 hT => ?_
 have hKp : _ ∧ _ ∧ _ ∧ _ ∧ _ ∧ _ := ⟨hT 7, hT 8, hT 27, hT 28, hT 29, hT 47⟩
 simp (decide := true) only [Fact.G, hf.size, reduceIte, s7, s8, s27, s28, s29] at hKp
 replace hf := hf1; clear hT hf1 s7 s8 s27 s28 s29 b34 b35 b36 b37 b38 b39 b40 b41 b42 b43 b44 b45 b46
 obtain ⟨s7, s8, s27, s28, s29, s47⟩ := hKp
 refine nx (hK22 _ _ ?_)
 refine Fact.cond_f s47 ?_
 have hfo : (decide (s.arcs.length ≤ 256) && (s.final || decide (s.out = 0))) = true := by have := HFI.out; rw [decide_eq_true this.1, this.2]; rfl
 have HFO := Lib.hid hfo; clear hfo
 refine wp_skip ?_
 refine Fact.then_normal ?_
 exact ⟨hf, s7, s8, s27, s28, s29, rfl, HFO.out⟩)
 · (
 have q0 : decide ((256 : Int) < (s.arcs.length : Int)) = false := decide_eq_false (by omega)
 have q1 := hfin.2
 have HFI := Lib.hid hfin; clear hfin
 refine Fact.sq fun K23 hK23 => ?_
 refine rg ?_
 have b34 := hf.b 34
 have b35 := hf.b 35
 have b36 := hf.b 36
 have b37 := hf.b 37
 have b38 := hf.b 38
 have b39 := hf.b 39
 have b40 := hf.b 40
 have b41 := hf.b 41
 have b42 := hf.b 42
 have b43 := hf.b 43
 have b44 := hf.b 44
 have b45 := hf.b 45
 have b46 := hf.b 46
 iterate 5 (refine fp fun K Z => ?_; go_simp; apply Z.out; clear Z K)
 refine og 4 38 false ?_ fun K Z => ?_
 · (
 simp (decide := true) only [Fact.G, reduceIte, hf.size, q0, q1, Fact.N])
 go_simp
 apply Z.out; clear Z K
 refine og 4 38 false ?_ fun K Z => ?_
 · (
 simp (decide := true) only [Fact.G, reduceIte, hf.size, q0, q1, Fact.N])
 go_simp
 apply Z.out; clear Z K
 refine og 4 38 false ?_ fun K Z => ?_
 · (
 simp (decide := true) only [Fact.G, reduceIte, hf.size, q0, q1, Fact.N])
 go_simp
 apply Z.out; clear Z K
 refine og 4 38 false ?_ fun K Z => ?_
 · (
 simp (decide := true) only [Fact.G, reduceIte, hf.size, q0, q1, Fact.N])
 go_simp
 apply Z.out; clear Z K
 refine og 8 42 true ?_ fun K Z => ?_
 · (
 simp (decide := true) only [Fact.G, reduceIte, hf.size, q0, q1, Fact.N])
 go_simp
 apply Z.out; clear Z K
 refine og 8 42 true ?_ fun K Z => ?_
 · (
 simp (decide := true) only [Fact.G, reduceIte, hf.size, q0, q1, Fact.N])
 go_simp
 apply Z.out; clear Z K
 refine og 8 42 true ?_ fun K Z => ?_
 · (
 simp (decide := true) only [Fact.G, reduceIte, hf.size, q0, q1, Fact.N])
 go_simp
 apply Z.out; clear Z K
 refine og 4 38 false ?_ fun K Z => ?_
 · (
 simp (decide := true) only [Fact.G, reduceIte, hf.size, q0, q1, Fact.N])
 go_simp
 apply Z.out; clear Z K
 refine fp fun K Z => ?_
 go_simp
 apply Z.out; clear Z K
 refine Fact.z hf fun fr1 hf1 hT => ?_
 have hKp : _ ∧ _ ∧ _ ∧ _ ∧ _ ∧ _ := ⟨hT 7, hT 8, hT 27, hT 28, hT 29, hT 47⟩
 simp (decide := true) only [Fact.G, hf.size, reduceIte, s7, s8, s27, s28, s29] at hKp
 replace hf := hf1; clear hT hf1 s7 s8 s27 s28 s29 b34 b35 b36 b37 b38 b39 b40 b41 b42 b43 b44 b45 b46
 obtain ⟨s7, s8, s27, s28, s29, s47⟩ := hKp
 refine nx (hK23 _ _ ?_)
 refine Fact.cond_s s47 (fun hqo => ?_) (fun hqo => ?_)
 · (
 have ho0 : s.out ≠ 0 := by simpa using hqo
 have HO0 := Lib.hid ho0; clear ho0 hqo
 have hbad : mayF en ss = false := by rw [HM0.out, HM.out, HST.out, HFI.out.2, decide_eq_false HO0.out]; simp
 have HBAD := Lib.hid hbad; clear hbad
 refine Fact.sq fun K24 hK24 => ?_
 refine rg ?_
 refine fp fun K Z => ?_
 go_simp
 apply Z.out; clear Z K
 refine Fact.z hf fun fr1 hf1 hT => ?_
 have hKp := hT 4
 simp (decide := true) only [Fact.G, hf.size, reduceIte] at hKp
 replace hf := hf1; clear hT hf1 s7 s8 s27 s28 s29 s47
 have s4 := hKp; clear hKp
 refine nx (hK24 _ _ ?_)
 refine wp_ret ?_
 refine Fact.then_ret ?_
 refine Fact.block_ret ?_
 refine Fact.then_ret ?_
 refine Fact.then_ret ?_
 refine Fact.block_ret ?_
 refine Fact.then_ret ?_
 exact Fact.ret1 rfl hf s4 ⟨by rw [HBAD.out], hbz1⟩)
 · (
 have ho0 : s.out = 0 := by simpa using hqo
 have HO0 := Lib.hid ho0; clear ho0 hqo
 have hfo : (decide (s.arcs.length ≤ 256) && (s.final || decide (s.out = 0))) = true := by have := HFI.out; rw [decide_eq_true this.1, this.2, decide_eq_true HO0.out]; rfl
 have HFO := Lib.hid hfo; clear hfo
 refine wp_skip ?_
 refine Fact.then_normal ?_
 exact ⟨hf, s7, s8, s27, s28, s29, rfl, HFO.out⟩)))
 · (
 clear hf s7 s8 s27 s28 s29
 rintro fr wq ⟨hf, s7, s8, s27, s28, s29, hw, hfo⟩
 subst wq
 have HFO := Lib.hid hfo; clear hfo
 refine Fact.sq fun K25 hK25 => ?_
 refine rg ?_
 have b48 := hf.b 48
 have b49 := hf.b 49
 iterate 4 (refine fp fun K Z => ?_; go_simp; apply Z.out; clear Z K)
 refine Fact.z hf fun fr1 hf1 hT => ?_
 have hKp : _ ∧ _ ∧ _ ∧ _ ∧ _ ∧ _ ∧ _ := ⟨hT 7, hT 27, hT 28, hT 29, hT 49, hT 50, hT 51⟩
 simp (decide := true) only [Fact.G, hf.size, reduceIte, s7, s27, s28, s29] at hKp
 replace hf := hf1; clear hT hf1 s7 s8 s27 s28 s29 b48 b49
 obtain ⟨s7, s27, s28, s29, s49, s50, s51⟩ := hKp
 refine nx (hK25 _ _ ?_)
 refine wp_block ?_
 refine wp_loop_ghost (fun gk2 fr wr2 => ∃ (k : Nat), gk2 = s.arcs.length - k ∧ k ≤ s.arcs.length ∧ Fact.Fr 66 fr ∧ fr.tmps[7]? = some (.int .i64 i) ∧ fr.tmps[27]? = some (.slice (some ⟨b, off, none⟩) ss.length cc) ∧ fr.tmps[28]? = some (.int .i64 ss.length) ∧ fr.tmps[29]? = some (.int .i64 i) ∧ fr.tmps[49]? = some (.slice A2 s.arcs.length c2) ∧ fr.tmps[50]? = some (.int .i64 s.arcs.length) ∧ fr.tmps[51]? = some (.int .i64 k) ∧ okTo i s.arcs = okTo i (s.arcs.drop k) ∧ Below W5.heap.size W5 wr2) (s.arcs.length) ?_ ?_
 · (
 exact ⟨0, rfl, Nat.zero_le _, hf, s7, s27, s28, s29, s49, s50, s51, rfl, Below.refl _ _⟩)
 · (
 clear hf s7 s27 s28 s29 s49 s50 s51
 rintro gk2 fr wr2 ⟨k, hk2, hki, hf, s7, s27, s28, s29, s49, s50, s51, hoa, hb6⟩
 have HK2 := Lib.hid hk2; have HOA := Lib.hid hoa; clear hk2 hoa
 refine Fact.sq fun K26 hK26 => ?_
 refine rg ?_
 refine fp fun K Z => ?_
 go_simp
 apply Z.out; clear Z K
 refine Fact.z hf fun fr1 hf1 hT => ?_
 have hKp : _ ∧ _ ∧ _ ∧ _ ∧ _ ∧ _ ∧ _ ∧ _ := ⟨hT 7, hT 27, hT 28, hT 29, hT 49, hT 50, hT 51, hT 52⟩
 simp (decide := true) only [Fact.G, hf.size, reduceIte, s7, s27, s28, s29, s49, s50, s51] at hKp
 replace hf := hf1; clear hT hf1 s7 s27 s28 s29 s49 s50 s51
 obtain ⟨s7, s27, s28, s29, s49, s50, s51, s52⟩ := hKp
 refine nx (hK26 _ _ ?_)
 refine Fact.sq fun K27 hK27 => ?_
 refine Fact.cond_s s52 (fun hq2 => ?_) (fun hq2 => ?_)
 · (
 have hklt : k < s.arcs.length := by have h9 := of_decide_eq_true hq2; omega
 have HQ2 := Lib.hid hq2; clear hq2
 obtain ⟨a, hka⟩ : ∃ a, s.arcs[k]? = some a := ⟨_, List.getElem?_eq_getElem hklt⟩
 obtain ⟨b3, off3, rfl, hbl, y0, y1, y2⟩ := (hra5.later hb6).at' hka
 have haa := hos.2.2 a (List.mem_of_getElem? hka)
 have hat := okTo_step (i := i) hka
 have HKA := Lib.hid hka; have HAT := Lib.hid hat; clear hka hat
 have hab := haa.1
 rcases to_cases a.to (i : Int) with hc | hc | hc
 · (
 have q2 : decide (a.to < 0) = true := decide_eq_true hc
 have HC := Lib.hid hc; clear hc
 refine wp_skip ?_
 refine nx (hK27 _ _ ?_)
 refine Fact.sq fun K28 hK28 => ?_
 refine wp_block ?_
 refine Fact.sq fun K29 hK29 => ?_
 refine rg ?_
 have b53 := hf.b 53
 have b54 := hf.b 54
 have b10 := hf.b 10
 refine fp fun K Z => ?_
 go_simp
 try rw [if_pos (by omega)]
 apply Z.out; clear Z K
 iterate 3 (refine fp fun K Z => ?_; go_simp; apply Z.out; clear Z K)
 refine Fact.z hf fun fr1 hf1 hT => ?_
 have hKp : _ ∧ _ ∧ _ ∧ _ ∧ _ ∧ _ ∧ _ ∧ _ := ⟨hT 7, hT 10, hT 27, hT 28, hT 29, hT 49, hT 50, hT 51⟩
 simp (decide := true) only [Fact.G, hf.size, reduceIte, s7, s27, s28, s29, s49, s50, s51] at hKp
 replace hf := hf1; clear hT hf1 s7 s27 s28 s29 s49 s50 s51 s52 b53 b54 b10
 obtain ⟨s7, s10, s27, s28, s29, s49, s50, s51⟩ := hKp
 obtain ⟨W7, hW7⟩ : ∃ W0, wr2.alloc (.cells #[.int .u8 a.byte, .int .u64 a.out, .int .i64 a.to] 60) = W0 := ⟨_, rfl⟩
 try rw [hW7]
 obtain ⟨hb7, -, -, z2, -, -⟩ := box3 hW7
 clear hW7
 clear y0 y1 y2 hbl
 have hbz := hbz1.trans ((hb6.trans (hb7.mono hb6.size)).mono hbz1.size)
 refine nx (hK29 _ _ ?_)
 refine Fact.sq fun K30 hK30 => ?_
 refine rg ?_
 have b55 := hf.b 55
 have b56 := hf.b 56
 have b57 := hf.b 57
 have b58 := hf.b 58
 have b59 := hf.b 59
 have b60 := hf.b 60
 have b61 := hf.b 61
 have b62 := hf.b 62
 iterate 4 (refine fp fun K Z => ?_; go_simp; apply Z.out; clear Z K)
 refine sk 3 58 false ?_ ?_
 · (
 simp (decide := true) only [Fact.G, reduceIte, hf.size, q2, Fact.N])
 refine sk 3 58 false ?_ ?_
 · (
 simp (decide := true) only [Fact.G, reduceIte, hf.size, q2, Fact.N])
 refine sk 3 58 false ?_ ?_
 · (
 simp (decide := true) only [Fact.G, reduceIte, hf.size, q2, Fact.N])
 refine sk 3 58 false ?_ ?_
 · (
 simp (decide := true) only [Fact.G, reduceIte, hf.size, q2, Fact.N])
 refine fp fun K Z => ?_
 go_simp
 apply Z.out; clear Z K
 refine Fact.z hf fun fr1 hf1 hT => ?_
 have hKp : _ ∧ _ ∧ _ ∧ _ ∧ _ ∧ _ ∧ _ ∧ _ := ⟨hT 7, hT 27, hT 28, hT 29, hT 49, hT 50, hT 51, hT 63⟩
 simp (decide := true) only [Fact.G, hf.size, reduceIte, s7, s27, s28, s29, s49, s50, s51] at hKp
 replace hf := hf1; clear hT hf1 s7 s10 s27 s28 s29 s49 s50 s51 b55 b56 b57 b58 b59 b60 b61 b62
 obtain ⟨s7, s27, s28, s29, s49, s50, s51, s63⟩ := hKp
 refine nx (hK30 _ _ ?_)
 refine Fact.cond_t s63 ?_
 have hbad : mayF en ss = false := by rw [HM0.out, HM.out, HST.out, HOA.out, HAT.out]; have := HC.out; rw [decide_eq_false (show ¬ 0 ≤ a.to by omega)]; simp
 have HBAD := Lib.hid hbad; clear hbad
 refine Fact.sq fun K31 hK31 => ?_
 refine rg ?_
 refine fp fun K Z => ?_
 go_simp
 apply Z.out; clear Z K
 refine Fact.z hf fun fr1 hf1 hT => ?_
 have hKp := hT 4
 simp (decide := true) only [Fact.G, hf.size, reduceIte] at hKp
 replace hf := hf1; clear hT hf1 s7 s27 s28 s29 s49 s50 s51 s63
 have s4 := hKp; clear hKp
 refine nx (hK31 _ _ ?_)
 refine wp_ret ?_
 refine Fact.block_ret ?_
 refine Fact.then_ret ?_
 refine Fact.then_ret ?_
 refine Fact.block_ret ?_
 refine Fact.block_ret ?_
 refine Fact.then_ret ?_
 refine Fact.then_ret ?_
 refine Fact.block_ret ?_
 refine Fact.then_ret ?_
 exact Fact.ret1 rfl hf s4 ⟨by rw [HBAD.out], hbz⟩)
 · (
 have q2 : decide (a.to < 0) = false := decide_eq_false (by omega)
 have q3 : decide ((i : Int) ≤ a.to) = true := decide_eq_true hc.2
 have HC := Lib.hid hc; clear hc
 refine wp_skip ?_
 refine nx (hK27 _ _ ?_)
 refine Fact.sq fun K32 hK32 => ?_
 refine wp_block ?_
 refine Fact.sq fun K33 hK33 => ?_
 refine rg ?_
 have b53 := hf.b 53
 have b54 := hf.b 54
 have b10 := hf.b 10
 refine fp fun K Z => ?_
 go_simp
 try rw [if_pos (by omega)]
 apply Z.out; clear Z K
 iterate 3 (refine fp fun K Z => ?_; go_simp; apply Z.out; clear Z K)
 refine Fact.z hf fun fr1 hf1 hT => ?_
 have hKp : _ ∧ _ ∧ _ ∧ _ ∧ _ ∧ _ ∧ _ ∧ _ := ⟨hT 7, hT 10, hT 27, hT 28, hT 29, hT 49, hT 50, hT 51⟩
 simp (decide := true) only [Fact.G, hf.size, reduceIte, s7, s27, s28, s29, s49, s50, s51] at hKp
 replace hf := hf1; clear hT hf1 s7 s27 s28 s29 s49 s50 s51 s52 b53 b54 b10
 obtain ⟨s7, s10, s27, s28, s29, s49, s50, s51⟩ := hKp
 obtain ⟨W7, hW7⟩ : ∃ W0, wr2.alloc (.cells #[.int .u8 a.byte, .int .u64 a.out, .int .i64 a.to] 60) = W0 := ⟨_, rfl⟩
 try rw [hW7]
 obtain ⟨hb7, -, -, z2, -, -⟩ := box3 hW7
 clear hW7
 clear y0 y1 y2 hbl
 have hbz := hbz1.trans ((hb6.trans (hb7.mono hb6.size)).mono hbz1.size)
 refine nx (hK33 _ _ ?_)
 refine Fact.sq fun K34 hK34 => ?_
 refine rg ?_
 have b55 := hf.b 55
 have b56 := hf.b 56
 have b57 := hf.b 57
 have b58 := hf.b 58
 have b59 := hf.b 59
 have b60 := hf.b 60
 have b61 := hf.b 61
 have b62 := hf.b 62
 iterate 4 (refine fp fun K Z => ?_; go_simp; apply Z.out; clear Z K)
 refine og 3 58 false ?_ fun K Z => ?_
 · (
 simp (decide := true) only [Fact.G, reduceIte, hf.size, q2, q3])
 go_simp
 apply Z.out; clear Z K
 refine og 3 58 false ?_ fun K Z => ?_
 · (
 simp (decide := true) only [Fact.G, reduceIte, hf.size, q2, q3])
 go_simp
 apply Z.out; clear Z K
 refine og 3 58 false ?_ fun K Z => ?_
 · (
 simp (decide := true) only [Fact.G, reduceIte, hf.size, q2, q3])
 go_simp
 apply Z.out; clear Z K
 refine og 3 58 false ?_ fun K Z => ?_
 · (
 simp (decide := true) only [Fact.G, reduceIte, hf.size, q2, q3])
 go_simp
 apply Z.out; clear Z K
 refine fp fun K Z => ?_
 go_simp
 apply Z.out; clear Z K
 refine Fact.z hf fun fr1 hf1 hT => ?_
 have hKp : _ ∧ _ ∧ _ ∧ _ ∧ _ ∧ _ ∧ _ ∧ _ := ⟨hT 7, hT 27, hT 28, hT 29, hT 49, hT 50, hT 51, hT 63⟩
 simp (decide := true) only [Fact.G, hf.size, reduceIte, s7, s27, s28, s29, s49, s50, s51] at hKp
 replace hf := hf1; clear hT hf1 s7 s10 s27 s28 s29 s49 s50 s51 b55 b56 b57 b58 b59 b60 b61 b62
 obtain ⟨s7, s27, s28, s29, s49, s50, s51, s63⟩ := hKp
 refine nx (hK34 _ _ ?_)
 refine Fact.cond_t s63 ?_
 have hbad : mayF en ss = false := by rw [HM0.out, HM.out, HST.out, HOA.out, HAT.out]; have := HC.out; rw [decide_eq_false (show ¬ a.to < (i : Int) by omega)]; simp
 have HBAD := Lib.hid hbad; clear hbad
 refine Fact.sq fun K35 hK35 => ?_
 refine rg ?_
 refine fp fun K Z => ?_
 go_simp
 apply Z.out; clear Z K
 refine Fact.z hf fun fr1 hf1 hT => ?_
 have hKp := hT 4
 simp (decide := true) only [Fact.G, hf.size, reduceIte] at hKp
 replace hf := hf1; clear hT hf1 s7 s27 s28 s29 s49 s50 s51 s63
 have s4 := hKp; clear hKp
 refine nx (hK35 _ _ ?_)
 refine wp_ret ?_
 refine Fact.block_ret ?_
 refine Fact.then_ret ?_
 refine Fact.then_ret ?_
 refine Fact.block_ret ?_
 refine Fact.block_ret ?_
 refine Fact.then_ret ?_
 refine Fact.then_ret ?_
 refine Fact.block_ret ?_
 refine Fact.then_ret ?_
 exact Fact.ret1 rfl hf s4 ⟨by rw [HBAD.out], hbz⟩)
 · (
 have q2 : decide (a.to < 0) = false := decide_eq_false (by omega)
 have q3 : decide ((i : Int) ≤ a.to) = false := decide_eq_false (by omega)
 have HC := Lib.hid hc; clear hc
 refine wp_skip ?_
 refine nx (hK27 _ _ ?_)
 refine Fact.sq fun K36 hK36 => ?_
 refine wp_block ?_
 refine Fact.sq fun K37 hK37 => ?_
 refine rg ?_
 have b53 := hf.b 53
 have b54 := hf.b 54
 have b10 := hf.b 10
 refine fp fun K Z => ?_
 go_simp
 try rw [if_pos (by omega)]
 apply Z.out; clear Z K
 iterate 3 (refine fp fun K Z => ?_; go_simp; apply Z.out; clear Z K)
 refine Fact.z hf fun fr1 hf1 hT => ?_
 have hKp : _ ∧ _ ∧ _ ∧ _ ∧ _ ∧ _ ∧ _ ∧ _ := ⟨hT 7, hT 10, hT 27, hT 28, hT 29, hT 49, hT 50, hT 51⟩
 simp (decide := true) only [Fact.G, hf.size, reduceIte, s7, s27, s28, s29, s49, s50, s51] at hKp
 replace hf := hf1; clear hT hf1 s7 s27 s28 s29 s49 s50 s51 s52 b53 b54 b10
 obtain ⟨s7, s10, s27, s28, s29, s49, s50, s51⟩ := hKp
 obtain ⟨W7, hW7⟩ : ∃ W0, wr2.alloc (.cells #[.int .u8 a.byte, .int .u64 a.out, .int .i64 a.to] 60) = W0 := ⟨_, rfl⟩
 try rw [hW7]
 obtain ⟨hb7, -, -, z2, -, -⟩ := box3 hW7
 clear hW7
 clear y0 y1 y2 hbl
 have hbz := hbz1.trans ((hb6.trans (hb7.mono hb6.size)).mono hbz1.size)
 refine nx (hK37 _ _ ?_)
 refine Fact.sq fun K38 hK38 => ?_
 refine rg ?_
 have b55 := hf.b 55
 have b56 := hf.b 56
 have b57 := hf.b 57
 have b58 := hf.b 58
 have b59 := hf.b 59
 have b60 := hf.b 60
 have b61 := hf.b 61
 have b62 := hf.b 62
 iterate 4 (refine fp fun K Z => ?_; go_simp; apply Z.out; clear Z K)
 refine og 3 58 false ?_ fun K Z => ?_
 · (
 simp (decide := true) only [Fact.G, reduceIte, hf.size, q2, q3])
 go_simp
 apply Z.out; clear Z K
 refine og 3 58 false ?_ fun K Z => ?_
 · (
 simp (decide := true) only [Fact.G, reduceIte, hf.size, q2, q3])
 go_simp
 apply Z.out; clear Z K
 refine og 3 58 false ?_ fun K Z => ?_
 · (
 simp (decide := true) only [Fact.G, reduceIte, hf.size, q2, q3])
 go_simp
 apply Z.out; clear Z K
 refine og 3 58 false ?_ fun K Z => ?_
 · (
 simp (decide := true) only [Fact.G, reduceIte, hf.size, q2, q3])
 go_simp
 apply Z.out; clear Z K
 refine fp fun K Z => ?_
 go_simp
 apply Z.out; clear Z K
 refine Fact.z hf fun fr1 hf1 hT => ?_
 have hKp : _ ∧ _ ∧ _ ∧ _ ∧ _ ∧ _ ∧ _ ∧ _ := ⟨hT 7, hT 27, hT 28, hT 29, hT 49, hT 50, hT 51, hT 63⟩
 simp (decide := true) only [Fact.G, hf.size, reduceIte, s7, s27, s28, s29, s49, s50, s51] at hKp
 replace hf := hf1; clear hT hf1 s7 s10 s27 s28 s29 s49 s50 s51 b55 b56 b57 b58 b59 b60 b61 b62
 obtain ⟨s7, s27, s28, s29, s49, s50, s51, s63⟩ := hKp
 refine nx (hK38 _ _ ?_)
 refine Fact.cond_f s63 ?_
 have hoa3 : okTo i s.arcs = okTo i (s.arcs.drop (k + 1)) := by rw [HOA.out, HAT.out]; have := HC.out; rw [decide_eq_true (show 0 ≤ a.to by omega), decide_eq_true (show a.to < (i : Int) by omega)]; rfl
 have HOA3 := Lib.hid hoa3; clear hoa3
 refine wp_skip ?_
 refine Fact.block_normal ?_
 refine nx (hK36 _ _ ?_)
 refine rg ?_
 have b64 := hf.b 64
 refine fp fun K Z => ?_
 go_simp
 try simp (disch := omega) only [Fact.W]
 apply Z.out; clear Z K
 refine fp fun K Z => ?_
 go_simp
 apply Z.out; clear Z K
 refine Fact.z hf fun fr1 hf1 hT => ?_
 have hKp : _ ∧ _ ∧ _ ∧ _ ∧ _ ∧ _ ∧ _ := ⟨hT 7, hT 27, hT 28, hT 29, hT 49, hT 50, hT 51⟩
 simp (decide := true) only [Fact.G, hf.size, reduceIte, s7, s27, s28, s29, s49, s50] at hKp
 replace hf := hf1; clear hT hf1 s7 s27 s28 s29 s49 s50 s51 s63 b64
 obtain ⟨s7, s27, s28, s29, s49, s50, s51⟩ := hKp
 refine Fact.then_normal ?_
 exact ⟨_, by have := HK2.out; omega, k + 1, rfl, by omega, hf, s7, s27, s28, s29, s49, s50, by rw [s51]; rfl, HOA3.out, hb6.trans (hb7.mono hb6.size)⟩))
 · (
 have hke : k = s.arcs.length := by have h9 := of_decide_eq_false hq2; omega
 have hoa2 : okTo i s.arcs = true := by rw [HOA.out, hke, List.drop_length]; rfl
 have HOA2 := Lib.hid hoa2; clear hoa2 hke hq2
 have hbr := hbr0.trans (hb6.mono hbr0.size)
 refine wp_exit ?_
 refine Fact.then_exit ?_
 refine Fact.then_exit ?_
 refine Fact.block_exit ?_
 refine Fact.block_normal ?_
 refine nx (hK18 _ _ ?_)
 refine rg ?_
 have b65 := hf.b 65
 refine fp fun K Z => ?_
 go_simp
 try simp (disch := omega) only [Fact.W]
 apply Z.out; clear Z K
 refine fp fun K Z => ?_
 go_simp
 apply Z.out; clear Z K
 refine Fact.z hf fun fr1 hf1 hT => ?_
 have hKp : _ ∧ _ ∧ _ := ⟨hT 27, hT 28, hT 29⟩
 simp (decide := true) only [Fact.G, hf.size, reduceIte, s27, s28] at hKp
 replace hf := hf1; clear hT hf1 s7 s27 s28 s29 s49 s50 s51 s52 b65
 obtain ⟨s27, s28, s29⟩ := hKp
 refine Fact.then_normal ?_
 exact ⟨_, by have := HK.out; omega, i + 1, rfl, by omega, hf, s27, s28, by rw [s29]; rfl, by rw [HM.out, HST.out, HFO.out, HOA2.out]; rfl, hbr⟩))))
 · (
 have hie : i = ss.length := by have h9 := of_decide_eq_false hq; omega
 have HIE := Lib.hid hie; clear hie hq
 refine wp_exit ?_
 refine Fact.then_exit ?_
 refine Fact.then_exit ?_
 refine Fact.block_exit ?_
 refine nx (hK14 _ _ ?_)
 refine Fact.sq fun K39 hK39 => ?_
 refine rg ?_
 refine fp fun K Z => ?_
 go_simp
 apply Z.out; clear Z K
 refine Fact.z hf fun fr1 hf1 hT => ?_
 have hKp := hT 4
 simp (decide := true) only [Fact.G, hf.size, reduceIte] at hKp
 replace hf := hf1; clear hT hf1 s27 s28 s29 s30
 have s4 := hKp; clear hKp
 refine nx (hK39 _ _ ?_)
 refine wp_ret ?_
 refine Fact.ret1 rfl hf s4 ⟨?_, hbz0.trans (hb.mono hbz0.size)⟩
 rw [HM0.out, HM.out, HIE.out, List.drop_length]
 rfl)))
end Dw
end Go.Proofs.YtdkbgbdgmihlmaaGreatDoor
