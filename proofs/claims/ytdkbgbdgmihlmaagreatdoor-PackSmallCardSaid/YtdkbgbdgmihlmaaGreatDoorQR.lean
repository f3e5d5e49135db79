/- Dawg: Size, formed. -/
import Derived.Test.YtdkbgbdgmihlmaaGreatDoorPRS
import Derived.Test.YtdkbgbdgmihlmaaGreatDoorQP
import Derived.Test.YtdkbgbdgmihlmaaGreatDoorDLawP
import Derived.Test.YtdkbgbdgmihlmaaGreatDoorTools
namespace Go.Proofs.YtdkbgbdgmihlmaaGreatDoor
open Go.RowKit
set_option linter.unusedSimpArgs false
set_option linter.unusedVariables false
set_option linter.unnecessarySimpa false
namespace Dw

theorem arc_cases (t i b l : Int) : t < 0 ∨ (0 ≤ t ∧ i ≤ t) ∨ (0 ≤ t ∧ t < i ∧ b ≤ l) ∨ (0 ≤ t ∧ t < i ∧ l < b) := by omega
set_option maxHeartbeats 4000000 in
set_option maxRecDepth 100000 in
theorem formed32 (w : World) (sv : Value) (init : Nat) (ss : List State) (hrs : RS w sv ss) (hok : ∀ s ∈ ss, okS s) (hlen : ss.length ≤ 1000000) : Calls Tryz.prog 33 #[.agg #[sv, .int .u64 init]] w fun e w1 => e = .returned (.bool (formedF ss)) ∧ Below w.heap.size w w1 := by
 refine calls_of_wp Tryz.func33 rfl ?_
 refine Fact.en 56 fun fr hf hT => ?_
 have s0 := hT 0 _ rfl
 clear hT
 obtain ⟨A, cc, rfl, hcc⟩ := hrs.form
 have HO := Lib.hid hok; clear hok
 refine Fact.sq fun K1 hK1 => ?_
 refine rg ?_
 iterate 2 (refine fp fun K Z => ?_; go_simp; apply Z.out; clear Z K)
 refine Fact.z hf fun fr1 hf1 hT => ?_
 have hKp := hT 1
 simp (decide := true) only [Fact.G, hf.size, reduceIte] at hKp
 replace hf := hf1; clear hT hf1 s0
 have s1 := hKp; clear hKp
 obtain ⟨W0, hW0⟩ : ∃ W0, w.alloc (.cells #[.slice A ss.length cc, .int .u64 init] 33) = W0 := ⟨_, rfl⟩
 try rw [hW0]
 obtain ⟨hb0, c0, c1, -, -⟩ := box2 hW0
 clear hW0
 have hr0 := hrs.later hb0
 clear hrs
 refine nx (hK1 _ _ ?_)
 refine Fact.sq fun K2 hK2 => ?_
 refine Fact.sq fun K3 hK3 => ?_
 refine rg ?_
 have b8 := hf.b 8
 have b9 := hf.b 9
 iterate 4 (refine fp fun K Z => ?_; go_simp; apply Z.out; clear Z K)
 refine Fact.z hf fun fr1 hf1 hT => ?_
 have hKp : _ ∧ _ ∧ _ ∧ _ := ⟨hT 1, hT 9, hT 10, hT 11⟩
 simp (decide := true) only [Fact.G, hf.size, reduceIte, s1] at hKp
 replace hf := hf1; clear hT hf1 s1 b8 b9
 obtain ⟨s1, s9, s10, s11⟩ := hKp
 refine nx (hK3 _ _ ?_)
 refine wp_block ?_
 refine wp_loop_ghost (fun gk fr wr => ∃ (i : Nat), gk = ss.length - i ∧ i ≤ ss.length ∧ Fact.Fr 56 fr ∧ fr.tmps[1]? = some (.pointer (some ⟨w.heap.size, 0, none⟩)) ∧ fr.tmps[9]? = some (.slice A ss.length cc) ∧ fr.tmps[10]? = some (.int .i64 ss.length) ∧ fr.tmps[11]? = some (.int .i64 i) ∧ formedL 0 ss = formedL i (ss.drop i) ∧ Below W0.heap.size W0 wr) (ss.length) ?_ ?_
 · (
 exact ⟨0, rfl, Nat.zero_le _, hf, s1, s9, s10, s11, rfl, Below.refl _ _⟩)
 · (
 clear hf s1 s9 s10 s11
 rintro gk fr wr ⟨i, hk, hi, hf, s1, s9, s10, s11, hfm, hb⟩
 have HK := Lib.hid hk; have HM := Lib.hid hfm; clear hk hfm
 refine Fact.sq fun K4 hK4 => ?_
 refine rg ?_
 refine fp fun K Z => ?_
 go_simp
 apply Z.out; clear Z K
 refine Fact.z hf fun fr1 hf1 hT => ?_
 have hKp : _ ∧ _ ∧ _ ∧ _ ∧ _ := ⟨hT 1, hT 9, hT 10, hT 11, hT 12⟩
 simp (decide := true) only [Fact.G, hf.size, reduceIte, s1, s9, s10, s11] at hKp
 replace hf := hf1; clear hT hf1 s1 s9 s10 s11
 obtain ⟨s1, s9, s10, s11, s12⟩ := hKp
 refine nx (hK4 _ _ ?_)
 refine Fact.sq fun K5 hK5 => ?_
 refine Fact.cond_s s12 (fun hq => ?_) (fun hq => ?_)
 · (
 have hlt : i < ss.length := by have h9 := of_decide_eq_true hq; omega
 have HQ := Lib.hid hq; clear hq
 obtain ⟨s, his⟩ : ∃ s, ss[i]? = some s := ⟨_, List.getElem?_eq_getElem hlt⟩
 obtain ⟨b, off, av, rfl, hat⟩ := (hr0.later hb).at_ his
 have d0 := hat.c0; have d1 := hat.c1; have d2 := hat.c2
 have hra := hat.arcs
 obtain ⟨A2, c2, rfl, _⟩ := hat.arcs.form
 have hos := HO.out s (List.mem_of_getElem? his)
 have hst := formedL_step his
 have HS := Lib.hid his; have HST := Lib.hid hst; clear his hst hat
 have hal := hos.2.1
 refine wp_skip ?_
 refine nx (hK5 _ _ ?_)
 refine Fact.sq fun K6 hK6 => ?_
 refine wp_block ?_
 refine Fact.sq fun K7 hK7 => ?_
 refine rg ?_
 have b13 := hf.b 13
 have b14 := hf.b 14
 have b15 := hf.b 15
 have b4 := hf.b 4
 refine fp fun K Z => ?_
 go_simp
 apply Z.out; clear Z K
 refine fp fun K Z => ?_
 go_simp
 try rw [if_pos (by omega)]
 apply Z.out; clear Z K
 iterate 4 (refine fp fun K Z => ?_; go_simp; apply Z.out; clear Z K)
 refine Fact.z hf fun fr1 hf1 hT => ?_
 have hKp : _ ∧ _ ∧ _ ∧ _ ∧ _ ∧ _ := ⟨hT 1, hT 3, hT 4, hT 9, hT 10, hT 11⟩
 simp (decide := true) only [Fact.G, hf.size, reduceIte, s1, s9, s10, s11] at hKp
 replace hf := hf1; clear hT hf1 s1 s9 s10 s11 s12 b13 b14 b15 b4
 obtain ⟨s1, s3, s4, s9, s10, s11⟩ := hKp
 obtain ⟨W5, hW5⟩ : ∃ W0, wr.alloc (.cells #[.slice A2 s.arcs.length c2, .bool s.final, .int .u64 s.out] 58) = W0 := ⟨_, rfl⟩
 try rw [hW5]
 obtain ⟨hb5, x0, x1, x2, -, -⟩ := box3 hW5
 clear hW5
 clear d0 d1 d2
 have hra5 := hra.later hb5
 clear hra
 have hbz0 := hb0.trans ((hb.trans (hb5.mono hb.size)).mono hb0.size)
 refine nx (hK7 _ _ ?_)
 refine Fact.seq_meet (fun fr wq => Fact.Fr 56 fr ∧ fr.tmps[1]? = some (.pointer (some ⟨w.heap.size, 0, none⟩)) ∧ fr.tmps[3]? = some (.int .i64 i) ∧ fr.tmps[4]? = some (.pointer (some ⟨wr.heap.size, 0, none⟩)) ∧ fr.tmps[9]? = some (.slice (some ⟨b, off, none⟩) ss.length cc) ∧ fr.tmps[10]? = some (.int .i64 ss.length) ∧ fr.tmps[11]? = some (.int .i64 i) ∧ wq = W5 ∧ (s.final || decide (s.out = 0)) = true) ?_ ?_
 · (
 rcases hfin : s.final with _ | _
 · (
 have HFI := Lib.hid hfin; clear hfin
 have q1 := HFI.out
 refine Fact.sq fun K8 hK8 => ?_
 refine rg ?_
 have b16 := hf.b 16
 have b17 := hf.b 17
 have b18 := hf.b 18
 have b19 := hf.b 19
 have b20 := hf.b 20
 have b21 := hf.b 21
 have b22 := hf.b 22
 iterate 4 (refine fp fun K Z => ?_; go_simp; apply Z.out; clear Z K)
 refine og 3 19 true ?_ fun K Z => ?_
 · (
 simp (decide := true) only [Fact.G, reduceIte, hf.size, q1, Fact.N])
 go_simp
 apply Z.out; clear Z K
 refine og 3 19 true ?_ fun K Z => ?_
 · (
 simp (decide := true) only [Fact.G, reduceIte, hf.size, q1, Fact.N])
 go_simp
 apply Z.out; clear Z K
 refine og 3 19 true ?_ fun K Z => ?_
 · (
 simp (decide := true) only [Fact.G, reduceIte, hf.size, q1, Fact.N])
 go_simp
 apply Z.out; clear Z K
 refine fp fun K Z => ?_
 go_simp
 apply Z.out; clear Z K
 refine Fact.z hf fun fr1 hf1 hT => ?_
 have hKp : _ ∧ _ ∧ _ ∧ _ ∧ _ ∧ _ ∧ _ := ⟨hT 1, hT 3, hT 4, hT 9, hT 10, hT 11, hT 23⟩
 simp (decide := true) only [Fact.G, hf.size, reduceIte, s1, s3, s4, s9, s10, s11] at hKp
 replace hf := hf1; clear hT hf1 s1 s3 s4 s9 s10 s11 b16 b17 b18 b19 b20 b21 b22
 obtain ⟨s1, s3, s4, s9, s10, s11, s23⟩ := hKp
 refine nx (hK8 _ _ ?_)
 refine Fact.cond_s s23 (fun hqo => ?_) (fun hqo => ?_)
 · (
 have ho0 : s.out ≠ 0 := by simpa using hqo
 have HO0 := Lib.hid ho0; clear ho0 hqo
 have hbad : formedL 0 ss = false := by rw [HM.out, HST.out, HFI.out, decide_eq_false HO0.out]; rfl
 have HBAD := Lib.hid hbad; clear hbad
 have hbz := hbz0
 refine Fact.sq fun K9 hK9 => ?_
 refine rg ?_
 refine fp fun K Z => ?_
 go_simp
 apply Z.out; clear Z K
 refine Fact.z hf fun fr1 hf1 hT => ?_
 have hKp := hT 2
 simp (decide := true) only [Fact.G, hf.size, reduceIte] at hKp
 replace hf := hf1; clear hT hf1 s1 s3 s4 s9 s10 s11 s23
 have s2 := hKp; clear hKp
 refine nx (hK9 _ _ ?_)
 refine wp_ret ?_
 refine Fact.then_ret ?_
 refine Fact.block_ret ?_
 refine Fact.then_ret ?_
 refine Fact.then_ret ?_
 refine Fact.block_ret ?_
 refine Fact.then_ret ?_
 exact Fact.ret1 rfl hf s2 ⟨by rw [formedF, HBAD.out]; rfl, hbz⟩)
 · (
 have ho0 : s.out = 0 := by simpa using hqo
 have HO0 := Lib.hid ho0; clear ho0 hqo
 have hfo : (s.final || decide (s.out = 0)) = true := by rw [HFI.out, decide_eq_true HO0.out]; rfl
 have HFO := Lib.hid hfo; clear hfo
 refine wp_skip ?_
 refine Fact.then_normal ?_
 exact ⟨hf, s1, s3, s4, s9, s10, s11, rfl, (by have h9 := HFO.out; rw [HFI.out] at h9; exact h9)⟩))
 · (
 have HFI := Lib.hid hfin; clear hfin
 have q1 := HFI.out
 refine Fact.sq fun K10 hK10 => ?_
 refine rg ?_
 have b16 := hf.b 16
 have b17 := hf.b 17
 have b18 := hf.b 18
 have b19 := hf.b 19
 have b20 := hf.b 20
 have b21 := hf.b 21
 have b22 := hf.b 22
 iterate 4 (refine fp fun K Z => ?_; go_simp; apply Z.out; clear Z K)
 refine sk 3 19 true ?_ ?_
 · (
 simp (decide := true) only [Fact.G, reduceIte, hf.size, q1, Fact.N])
 refine sk 3 19 true ?_ ?_
 · (
 simp (decide := true) only [Fact.G, reduceIte, hf.size, q1, Fact.N])
 refine sk 3 19 true ?_ ?_
 · (
 simp (decide := true) only [Fact.G, reduceIte, hf.size, q1, Fact.N])
 refine fp fun K Z => ?_
 go_simp
 apply Z.out; clear Z K
 refine Fact.z hf fun fr1 hf1 hT => ?_
 have hKp : _ ∧ _ ∧ _ ∧ _ ∧ _ ∧ _ ∧ _ := ⟨hT 1, hT 3, hT 4, hT 9, hT 10, hT 11, hT 23⟩
 simp (decide := true) only [Fact.G, hf.size, reduceIte, s1, s3, s4, s9, s10, s11] at hKp
 replace hf := hf1; clear hT hf1 s1 s3 s4 s9 s10 s11 b16 b17 b18 b19 b20 b21 b22
 obtain ⟨s1, s3, s4, s9, s10, s11, s23⟩ := hKp
 refine nx (hK10 _ _ ?_)
 have hfo : (s.final || decide (s.out = 0)) = true := by rw [HFI.out]; rfl
 have HFO := Lib.hid hfo; clear hfo
 refine Fact.cond_f s23 ?_
 refine wp_skip ?_
 refine Fact.then_normal ?_
 exact ⟨hf, s1, s3, s4, s9, s10, s11, rfl, (by have h9 := HFO.out; rw [HFI.out] at h9; exact h9)⟩))
 · (
 clear hf s1 s3 s4 s9 s10 s11
 rintro fr wq ⟨hf, s1, s3, s4, s9, s10, s11, hw, hfo⟩
 subst wq
 have HFO := Lib.hid hfo; clear hfo
 refine Fact.sq fun K11 hK11 => ?_
 refine rg ?_
 refine fp fun K Z => ?_
 go_simp
 apply Z.out; clear Z K
 refine Fact.z hf fun fr1 hf1 hT => ?_
 have hKp : _ ∧ _ ∧ _ ∧ _ ∧ _ ∧ _ ∧ _ := ⟨hT 1, hT 3, hT 4, hT 5, hT 9, hT 10, hT 11⟩
 simp (decide := true) only [Fact.G, hf.size, reduceIte, s1, s3, s4, s9, s10, s11] at hKp
 replace hf := hf1; clear hT hf1 s1 s3 s4 s9 s10 s11
 obtain ⟨s1, s3, s4, s5, s9, s10, s11⟩ := hKp
 refine nx (hK11 _ _ ?_)
 refine Fact.sq fun K12 hK12 => ?_
 refine rg ?_
 have b24 := hf.b 24
 have b25 := hf.b 25
 iterate 4 (refine fp fun K Z => ?_; go_simp; apply Z.out; clear Z K)
 refine Fact.z hf fun fr1 hf1 hT => ?_
 have hKp : _ ∧ _ ∧ _ ∧ _ ∧ _ ∧ _ ∧ _ ∧ _ ∧ _ := ⟨hT 1, hT 3, hT 5, hT 9, hT 10, hT 11, hT 25, hT 26, hT 27⟩
 simp (decide := true) only [Fact.G, hf.size, reduceIte, s1, s3, s5, s9, s10, s11] at hKp
 replace hf := hf1; clear hT hf1 s1 s3 s4 s5 s9 s10 s11 b24 b25
 obtain ⟨s1, s3, s5, s9, s10, s11, s25, s26, s27⟩ := hKp
 refine nx (hK12 _ _ ?_)
 refine wp_block ?_
 refine wp_loop_ghost (fun gk2 fr wr2 => ∃ (k : Nat) (last : Int), gk2 = s.arcs.length - k ∧ k ≤ s.arcs.length ∧ Fact.Fr 56 fr ∧ fr.tmps[1]? = some (.pointer (some ⟨w.heap.size, 0, none⟩)) ∧ fr.tmps[3]? = some (.int .i64 i) ∧ fr.tmps[5]? = some (.int .i64 last) ∧ fr.tmps[9]? = some (.slice (some ⟨b, off, none⟩) ss.length cc) ∧ fr.tmps[10]? = some (.int .i64 ss.length) ∧ fr.tmps[11]? = some (.int .i64 i) ∧ fr.tmps[25]? = some (.slice A2 s.arcs.length c2) ∧ fr.tmps[26]? = some (.int .i64 s.arcs.length) ∧ fr.tmps[27]? = some (.int .i64 k) ∧ okArcs i (-1) s.arcs = okArcs i last (s.arcs.drop k) ∧ Below W5.heap.size W5 wr2) (s.arcs.length) ?_ ?_
 · (
 exact ⟨0, -1, rfl, Nat.zero_le _, hf, s1, s3, s5, s9, s10, s11, s25, s26, s27, rfl, Below.refl _ _⟩)
 · (
 clear hf s1 s3 s5 s9 s10 s11 s25 s26 s27
 rintro gk2 fr wr2 ⟨k, last, hk2, hki, hf, s1, s3, s5, s9, s10, s11, s25, s26, s27, hoa, hb6⟩
 have HK2 := Lib.hid hk2; have HOA := Lib.hid hoa; clear hk2 hoa
 refine Fact.sq fun K13 hK13 => ?_
 refine rg ?_
 refine fp fun K Z => ?_
 go_simp
 apply Z.out; clear Z K
 refine Fact.z hf fun fr1 hf1 hT => ?_
 have hKp : _ ∧ _ ∧ _ ∧ _ ∧ _ ∧ _ ∧ _ ∧ _ ∧ _ ∧ _ := ⟨hT 1, hT 3, hT 5, hT 9, hT 10, hT 11, hT 25, hT 26, hT 27, hT 28⟩
 simp (decide := true) only [Fact.G, hf.size, reduceIte, s1, s3, s5, s9, s10, s11, s25, s26, s27] at hKp
 replace hf := hf1; clear hT hf1 s1 s3 s5 s9 s10 s11 s25 s26 s27
 obtain ⟨s1, s3, s5, s9, s10, s11, s25, s26, s27, s28⟩ := hKp
 refine nx (hK13 _ _ ?_)
 refine Fact.sq fun K14 hK14 => ?_
 refine Fact.cond_s s28 (fun hq2 => ?_) (fun hq2 => ?_)
 · (
 have hklt : k < s.arcs.length := by have h9 := of_decide_eq_true hq2; omega
 have HQ2 := Lib.hid hq2; clear hq2
 obtain ⟨a, hka⟩ : ∃ a, s.arcs[k]? = some a := ⟨_, List.getElem?_eq_getElem hklt⟩
 obtain ⟨b3, off3, rfl, hbl, y0, y1, y2⟩ := (hra5.later hb6).at' hka
 have haa := hos.2.2 a (List.mem_of_getElem? hka)
 have hat := okArcs_step (i := i) (last := last) hka
 have HKA := Lib.hid hka; have HAT := Lib.hid hat; clear hka hat
 have hab := haa.1
 rcases arc_cases a.to (i : Int) (a.byte : Int) last with hc | hc | hc | hc
 · (
 have q2 : decide (a.to < 0) = true := decide_eq_true hc
 have HC := Lib.hid hc; clear hc
 refine wp_skip ?_
 refine nx (hK14 _ _ ?_)
 refine Fact.sq fun K15 hK15 => ?_
 refine wp_block ?_
 refine Fact.sq fun K16 hK16 => ?_
 refine rg ?_
 have b29 := hf.b 29
 have b30 := hf.b 30
 have b7 := hf.b 7
 refine fp fun K Z => ?_
 go_simp
 try rw [if_pos (by omega)]
 apply Z.out; clear Z K
 iterate 3 (refine fp fun K Z => ?_; go_simp; apply Z.out; clear Z K)
 refine Fact.z hf fun fr1 hf1 hT => ?_
 have hKp : _ ∧ _ ∧ _ ∧ _ ∧ _ ∧ _ ∧ _ ∧ _ ∧ _ ∧ _ := ⟨hT 1, hT 3, hT 5, hT 7, hT 9, hT 10, hT 11, hT 25, hT 26, hT 27⟩
 simp (decide := true) only [Fact.G, hf.size, reduceIte, s1, s3, s5, s9, s10, s11, s25, s26, s27] at hKp
 replace hf := hf1; clear hT hf1 s1 s3 s5 s9 s10 s11 s25 s26 s27 s28 b29 b30 b7
 obtain ⟨s1, s3, s5, s7, s9, s10, s11, s25, s26, s27⟩ := hKp
 obtain ⟨W7, hW7⟩ : ∃ W0, wr2.alloc (.cells #[.int .u8 a.byte, .int .u64 a.out, .int .i64 a.to] 60) = W0 := ⟨_, rfl⟩
 try rw [hW7]
 obtain ⟨hb7, z0, -, z2, -, -⟩ := box3 hW7
 clear hW7
 clear y0 y1 y2 hbl
 have hbz := hbz0.trans ((hb6.trans (hb7.mono hb6.size)).mono hbz0.size)
 refine nx (hK16 _ _ ?_)
 refine Fact.sq fun K17 hK17 => ?_
 refine Fact.sq fun K18 hK18 => ?_
 refine rg ?_
 have b31 := hf.b 31
 have b32 := hf.b 32
 have b33 := hf.b 33
 have b34 := hf.b 34
 have b35 := hf.b 35
 have b36 := hf.b 36
 have b37 := hf.b 37
 have b38 := hf.b 38
 have b39 := hf.b 39
 have b40 := hf.b 40
 have b41 := hf.b 41
 have b42 := hf.b 42
 have b43 := hf.b 43
 have b44 := hf.b 44
 have b45 := hf.b 45
 iterate 4 (refine fp fun K Z => ?_; go_simp; apply Z.out; clear Z K)
 refine sk 3 34 false ?_ ?_
 · (
 simp (decide := true) only [Fact.G, reduceIte, hf.size, q2, Fact.N])
 refine sk 3 34 false ?_ ?_
 · (
 simp (decide := true) only [Fact.G, reduceIte, hf.size, q2, Fact.N])
 refine sk 3 34 false ?_ ?_
 · (
 simp (decide := true) only [Fact.G, reduceIte, hf.size, q2, Fact.N])
 refine sk 3 34 false ?_ ?_
 · (
 simp (decide := true) only [Fact.G, reduceIte, hf.size, q2, Fact.N])
 iterate 2 (refine fp fun K Z => ?_; go_simp; apply Z.out; clear Z K)
 refine sk 9 40 false ?_ ?_
 · (
 simp (decide := true) only [Fact.G, reduceIte, hf.size, q2, Fact.N])
 refine sk 9 40 false ?_ ?_
 · (
 simp (decide := true) only [Fact.G, reduceIte, hf.size, q2, Fact.N])
 refine sk 9 40 false ?_ ?_
 · (
 simp (decide := true) only [Fact.G, reduceIte, hf.size, q2, Fact.N])
 refine sk 9 40 false ?_ ?_
 · (
 simp (decide := true) only [Fact.G, reduceIte, hf.size, q2, Fact.N])
 refine sk 9 40 false ?_ ?_
 · (
 simp (decide := true) only [Fact.G, reduceIte, hf.size, q2, Fact.N])
 refine fp fun K Z => ?_
 go_simp
 apply Z.out; clear Z K
 refine Fact.z hf fun fr1 hf1 hT => ?_
 have hKp : _ ∧ _ ∧ _ ∧ _ ∧ _ ∧ _ ∧ _ ∧ _ ∧ _ ∧ _ := ⟨hT 1, hT 3, hT 7, hT 9, hT 10, hT 11, hT 25, hT 26, hT 27, hT 46⟩
 simp (decide := true) only [Fact.G, hf.size, reduceIte, s1, s3, s7, s9, s10, s11, s25, s26, s27] at hKp
 replace hf := hf1; clear hT hf1 s1 s3 s5 s7 s9 s10 s11 s25 s26 s27 b31 b32 b33 b34 b35 b36 b37 b38 b39 b40 b41 b42 b43 b44 b45
 obtain ⟨s1, s3, s7, s9, s10, s11, s25, s26, s27, s46⟩ := hKp
 refine nx (hK18 _ _ ?_)
 refine Fact.cond_t s46 ?_
 have hbad : formedL 0 ss = false := by rw [HM.out, HST.out, HOA.out, HAT.out]; have := HC.out; rw [decide_eq_false (show ¬ 0 ≤ a.to by omega)]; simp
 have HBAD := Lib.hid hbad; clear hbad
 refine Fact.sq fun K19 hK19 => ?_
 refine rg ?_
 refine fp fun K Z => ?_
 go_simp
 apply Z.out; clear Z K
 refine Fact.z hf fun fr1 hf1 hT => ?_
 have hKp := hT 2
 simp (decide := true) only [Fact.G, hf.size, reduceIte] at hKp
 replace hf := hf1; clear hT hf1 s1 s3 s7 s9 s10 s11 s25 s26 s27 s46
 have s2 := hKp; clear hKp
 refine nx (hK19 _ _ ?_)
 refine wp_ret ?_
 refine Fact.then_ret ?_
 refine Fact.block_ret ?_
 refine Fact.then_ret ?_
 refine Fact.then_ret ?_
 refine Fact.block_ret ?_
 refine Fact.block_ret ?_
 refine Fact.then_ret ?_
 refine Fact.then_ret ?_
 refine Fact.block_ret ?_
 refine Fact.then_ret ?_
 exact Fact.ret1 rfl hf s2 ⟨by rw [formedF, HBAD.out]; rfl, hbz⟩)
 · (
 have q2 : decide (a.to < 0) = false := decide_eq_false (by omega)
 have q3 : decide ((i : Int) ≤ a.to) = true := decide_eq_true hc.2
 have HC := Lib.hid hc; clear hc
 refine wp_skip ?_
 refine nx (hK14 _ _ ?_)
 refine Fact.sq fun K20 hK20 => ?_
 refine wp_block ?_
 refine Fact.sq fun K21 hK21 => ?_
 refine rg ?_
 have b29 := hf.b 29
 have b30 := hf.b 30
 have b7 := hf.b 7
 refine fp fun K Z => ?_
 go_simp
 try rw [if_pos (by omega)]
 apply Z.out; clear Z K
 iterate 3 (refine fp fun K Z => ?_; go_simp; apply Z.out; clear Z K)
 refine Fact.z hf fun fr1 hf1 hT => ?_
 have hKp : _ ∧ _ ∧ _ ∧ _ ∧ _ ∧ _ ∧ _ ∧ _ ∧ _ ∧ _ := ⟨hT 1, hT 3, hT 5, hT 7, hT 9, hT 10, hT 11, hT 25, hT 26, hT 27⟩
 simp (decide := true) only [Fact.G, hf.size, reduceIte, s1, s3, s5, s9, s10, s11, s25, s26, s27] at hKp
 replace hf := hf1; clear hT hf1 s1 s3 s5 s9 s10 s11 s25 s26 s27 s28 b29 b30 b7
 obtain ⟨s1, s3, s5, s7, s9, s10, s11, s25, s26, s27⟩ := hKp
 obtain ⟨W7, hW7⟩ : ∃ W0, wr2.alloc (.cells #[.int .u8 a.byte, .int .u64 a.out, .int .i64 a.to] 60) = W0 := ⟨_, rfl⟩
 try rw [hW7]
 obtain ⟨hb7, z0, -, z2, -, -⟩ := box3 hW7
 clear hW7
 clear y0 y1 y2 hbl
 have hbz := hbz0.trans ((hb6.trans (hb7.mono hb6.size)).mono hbz0.size)
 refine nx (hK21 _ _ ?_)
 refine Fact.sq fun K22 hK22 => ?_
 refine Fact.sq fun K23 hK23 => ?_
 refine rg ?_
 have b31 := hf.b 31
 have b32 := hf.b 32
 have b33 := hf.b 33
 have b34 := hf.b 34
 have b35 := hf.b 35
 have b36 := hf.b 36
 have b37 := hf.b 37
 have b38 := hf.b 38
 have b39 := hf.b 39
 have b40 := hf.b 40
 have b41 := hf.b 41
 have b42 := hf.b 42
 have b43 := hf.b 43
 have b44 := hf.b 44
 have b45 := hf.b 45
 iterate 4 (refine fp fun K Z => ?_; go_simp; apply Z.out; clear Z K)
 refine og 3 34 false ?_ fun K Z => ?_
 · (
 simp (decide := true) only [Fact.G, reduceIte, hf.size, q2, q3])
 go_simp
 apply Z.out; clear Z K
 refine og 3 34 false ?_ fun K Z => ?_
 · (
 simp (decide := true) only [Fact.G, reduceIte, hf.size, q2, q3])
 go_simp
 apply Z.out; clear Z K
 refine og 3 34 false ?_ fun K Z => ?_
 · (
 simp (decide := true) only [Fact.G, reduceIte, hf.size, q2, q3])
 go_simp
 apply Z.out; clear Z K
 refine og 3 34 false ?_ fun K Z => ?_
 · (
 simp (decide := true) only [Fact.G, reduceIte, hf.size, q2, q3])
 go_simp
 apply Z.out; clear Z K
 iterate 2 (refine fp fun K Z => ?_; go_simp; apply Z.out; clear Z K)
 refine sk 9 40 false ?_ ?_
 · (
 simp (decide := true) only [Fact.G, reduceIte, hf.size, q2, q3, Fact.N])
 refine sk 9 40 false ?_ ?_
 · (
 simp (decide := true) only [Fact.G, reduceIte, hf.size, q2, q3, Fact.N])
 refine sk 9 40 false ?_ ?_
 · (
 simp (decide := true) only [Fact.G, reduceIte, hf.size, q2, q3, Fact.N])
 refine sk 9 40 false ?_ ?_
 · (
 simp (decide := true) only [Fact.G, reduceIte, hf.size, q2, q3, Fact.N])
 refine sk 9 40 false ?_ ?_
 · (
 simp (decide := true) only [Fact.G, reduceIte, hf.size, q2, q3, Fact.N])
 refine fp fun K Z => ?_
 go_simp
 apply Z.out; clear Z K
 refine Fact.z hf fun fr1 hf1 hT => ?_
 have hKp : _ ∧ _ ∧ _ ∧ _ ∧ _ ∧ _ ∧ _ ∧ _ ∧ _ ∧ _ := ⟨hT 1, hT 3, hT 7, hT 9, hT 10, hT 11, hT 25, hT 26, hT 27, hT 46⟩
 simp (decide := true) only [Fact.G, hf.size, reduceIte, s1, s3, s7, s9, s10, s11, s25, s26, s27] at hKp
 replace hf := hf1; clear hT hf1 s1 s3 s5 s7 s9 s10 s11 s25 s26 s27 b31 b32 b33 b34 b35 b36 b37 b38 b39 b40 b41 b42 b43 b44 b45
 obtain ⟨s1, s3, s7, s9, s10, s11, s25, s26, s27, s46⟩ := hKp
 refine nx (hK23 _ _ ?_)
 refine Fact.cond_t s46 ?_
 have hbad : formedL 0 ss = false := by rw [HM.out, HST.out, HOA.out, HAT.out]; have := HC.out; rw [decide_eq_false (show ¬ a.to < (i : Int) by omega)]; simp
 have HBAD := Lib.hid hbad; clear hbad
 refine Fact.sq fun K24 hK24 => ?_
 refine rg ?_
 refine fp fun K Z => ?_
 go_simp
 apply Z.out; clear Z K
 refine Fact.z hf fun fr1 hf1 hT => ?_
 have hKp := hT 2
 simp (decide := true) only [Fact.G, hf.size, reduceIte] at hKp
 replace hf := hf1; clear hT hf1 s1 s3 s7 s9 s10 s11 s25 s26 s27 s46
 have s2 := hKp; clear hKp
 refine nx (hK24 _ _ ?_)
 refine wp_ret ?_
 refine Fact.then_ret ?_
 refine Fact.block_ret ?_
 refine Fact.then_ret ?_
 refine Fact.then_ret ?_
 refine Fact.block_ret ?_
 refine Fact.block_ret ?_
 refine Fact.then_ret ?_
 refine Fact.then_ret ?_
 refine Fact.block_ret ?_
 refine Fact.then_ret ?_
 exact Fact.ret1 rfl hf s2 ⟨by rw [formedF, HBAD.out]; rfl, hbz⟩)
 · (
 have q2 : decide (a.to < 0) = false := decide_eq_false (by omega)
 have q3 : decide ((i : Int) ≤ a.to) = false := decide_eq_false (by omega)
 have q4 : decide ((a.byte : Int) ≤ last) = true := decide_eq_true hc.2.2
 have HC := Lib.hid hc; clear hc
 refine wp_skip ?_
 refine nx (hK14 _ _ ?_)
 refine Fact.sq fun K25 hK25 => ?_
 refine wp_block ?_
 refine Fact.sq fun K26 hK26 => ?_
 refine rg ?_
 have b29 := hf.b 29
 have b30 := hf.b 30
 have b7 := hf.b 7
 refine fp fun K Z => ?_
 go_simp
 try rw [if_pos (by omega)]
 apply Z.out; clear Z K
 iterate 3 (refine fp fun K Z => ?_; go_simp; apply Z.out; clear Z K)
 refine Fact.z hf fun fr1 hf1 hT => ?_
 have hKp : _ ∧ _ ∧ _ ∧ _ ∧ _ ∧ _ ∧ _ ∧ _ ∧ _ ∧ _ := ⟨hT 1, hT 3, hT 5, hT 7, hT 9, hT 10, hT 11, hT 25, hT 26, hT 27⟩
 simp (decide := true) only [Fact.G, hf.size, reduceIte, s1, s3, s5, s9, s10, s11, s25, s26, s27] at hKp
 replace hf := hf1; clear hT hf1 s1 s3 s5 s9 s10 s11 s25 s26 s27 s28 b29 b30 b7
 obtain ⟨s1, s3, s5, s7, s9, s10, s11, s25, s26, s27⟩ := hKp
 obtain ⟨W7, hW7⟩ : ∃ W0, wr2.alloc (.cells #[.int .u8 a.byte, .int .u64 a.out, .int .i64 a.to] 60) = W0 := ⟨_, rfl⟩
 try rw [hW7]
 obtain ⟨hb7, z0, -, z2, -, -⟩ := box3 hW7
 clear hW7
 clear y0 y1 y2 hbl
 have hbz := hbz0.trans ((hb6.trans (hb7.mono hb6.size)).mono hbz0.size)
 refine nx (hK26 _ _ ?_)
 refine Fact.sq fun K27 hK27 => ?_
 refine Fact.sq fun K28 hK28 => ?_
 refine rg ?_
 have b31 := hf.b 31
 have b32 := hf.b 32
 have b33 := hf.b 33
 have b34 := hf.b 34
 have b35 := hf.b 35
 have b36 := hf.b 36
 have b37 := hf.b 37
 have b38 := hf.b 38
 have b39 := hf.b 39
 have b40 := hf.b 40
 have b41 := hf.b 41
 have b42 := hf.b 42
 have b43 := hf.b 43
 have b44 := hf.b 44
 have b45 := hf.b 45
 iterate 4 (refine fp fun K Z => ?_; go_simp; apply Z.out; clear Z K)
 refine og 3 34 false ?_ fun K Z => ?_
 · (
 simp (decide := true) only [Fact.G, reduceIte, hf.size, q2, q3, q4])
 go_simp
 apply Z.out; clear Z K
 refine og 3 34 false ?_ fun K Z => ?_
 · (
 simp (decide := true) only [Fact.G, reduceIte, hf.size, q2, q3, q4])
 go_simp
 apply Z.out; clear Z K
 refine og 3 34 false ?_ fun K Z => ?_
 · (
 simp (decide := true) only [Fact.G, reduceIte, hf.size, q2, q3, q4])
 go_simp
 apply Z.out; clear Z K
 refine og 3 34 false ?_ fun K Z => ?_
 · (
 simp (decide := true) only [Fact.G, reduceIte, hf.size, q2, q3, q4])
 go_simp
 apply Z.out; clear Z K
 iterate 2 (refine fp fun K Z => ?_; go_simp; apply Z.out; clear Z K)
 refine og 9 40 false ?_ fun K Z => ?_
 · (
 simp (decide := true) only [Fact.G, reduceIte, hf.size, q2, q3, q4])
 go_simp
 apply Z.out; clear Z K
 refine og 9 40 false ?_ fun K Z => ?_
 · (
 simp (decide := true) only [Fact.G, reduceIte, hf.size, q2, q3, q4])
 go_simp
 apply Z.out; clear Z K
 refine og 9 40 false ?_ fun K Z => ?_
 · (
 simp (decide := true) only [Fact.G, reduceIte, hf.size, q2, q3, q4])
 go_simp
 try simp (disch := omega) only [Fact.wrap_i64]
 apply Z.out; clear Z K
 refine og 9 40 false ?_ fun K Z => ?_
 · (
 simp (decide := true) only [Fact.G, reduceIte, hf.size, q2, q3, q4])
 go_simp
 apply Z.out; clear Z K
 refine og 9 40 false ?_ fun K Z => ?_
 · (
 simp (decide := true) only [Fact.G, reduceIte, hf.size, q2, q3, q4])
 go_simp
 apply Z.out; clear Z K
 refine fp fun K Z => ?_
 go_simp
 apply Z.out; clear Z K
 refine Fact.z hf fun fr1 hf1 hT => ?_
 have hKp : _ ∧ _ ∧ _ ∧ _ ∧ _ ∧ _ ∧ _ ∧ _ ∧ _ ∧ _ := ⟨hT 1, hT 3, hT 7, hT 9, hT 10, hT 11, hT 25, hT 26, hT 27, hT 46⟩
 simp (decide := true) only [Fact.G, hf.size, reduceIte, s1, s3, s7, s9, s10, s11, s25, s26, s27] at hKp
 replace hf := hf1; clear hT hf1 s1 s3 s5 s7 s9 s10 s11 s25 s26 s27 b31 b32 b33 b34 b35 b36 b37 b38 b39 b40 b41 b42 b43 b44 b45
 obtain ⟨s1, s3, s7, s9, s10, s11, s25, s26, s27, s46⟩ := hKp
 refine nx (hK28 _ _ ?_)
 refine Fact.cond_t s46 ?_
 have hbad : formedL 0 ss = false := by rw [HM.out, HST.out, HOA.out, HAT.out]; have := HC.out; rw [decide_eq_false (show ¬ last < (a.byte : Int) by omega)]; simp
 have HBAD := Lib.hid hbad; clear hbad
 refine Fact.sq fun K29 hK29 => ?_
 refine rg ?_
 refine fp fun K Z => ?_
 go_simp
 apply Z.out; clear Z K
 refine Fact.z hf fun fr1 hf1 hT => ?_
 have hKp := hT 2
 simp (decide := true) only [Fact.G, hf.size, reduceIte] at hKp
 replace hf := hf1; clear hT hf1 s1 s3 s7 s9 s10 s11 s25 s26 s27 s46
 have s2 := hKp; clear hKp
 refine nx (hK29 _ _ ?_)
 refine wp_ret ?_
 refine Fact.then_ret ?_
 refine Fact.block_ret ?_
 refine Fact.then_ret ?_
 refine Fact.then_ret ?_
 refine Fact.block_ret ?_
 refine Fact.block_ret ?_
 refine Fact.then_ret ?_
 refine Fact.then_ret ?_
 refine Fact.block_ret ?_
 refine Fact.then_ret ?_
 exact Fact.ret1 rfl hf s2 ⟨by rw [formedF, HBAD.out]; rfl, hbz⟩)
 · (
 have q2 : decide (a.to < 0) = false := decide_eq_false (by omega)
 have q3 : decide ((i : Int) ≤ a.to) = false := decide_eq_false (by omega)
 have q4 : decide ((a.byte : Int) ≤ last) = false := decide_eq_false (by omega)
 have HC := Lib.hid hc; clear hc
 refine wp_skip ?_
 refine nx (hK14 _ _ ?_)
 refine Fact.sq fun K30 hK30 => ?_
 refine wp_block ?_
 refine Fact.sq fun K31 hK31 => ?_
 refine rg ?_
 have b29 := hf.b 29
 have b30 := hf.b 30
 have b7 := hf.b 7
 refine fp fun K Z => ?_
 go_simp
 try rw [if_pos (by omega)]
 apply Z.out; clear Z K
 iterate 3 (refine fp fun K Z => ?_; go_simp; apply Z.out; clear Z K)
 refine Fact.z hf fun fr1 hf1 hT => ?_
 have hKp : _ ∧ _ ∧ _ ∧ _ ∧ _ ∧ _ ∧ _ ∧ _ ∧ _ ∧ _ := ⟨hT 1, hT 3, hT 5, hT 7, hT 9, hT 10, hT 11, hT 25, hT 26, hT 27⟩
 simp (decide := true) only [Fact.G, hf.size, reduceIte, s1, s3, s5, s9, s10, s11, s25, s26, s27] at hKp
 replace hf := hf1; clear hT hf1 s1 s3 s5 s9 s10 s11 s25 s26 s27 s28 b29 b30 b7
 obtain ⟨s1, s3, s5, s7, s9, s10, s11, s25, s26, s27⟩ := hKp
 obtain ⟨W7, hW7⟩ : ∃ W0, wr2.alloc (.cells #[.int .u8 a.byte, .int .u64 a.out, .int .i64 a.to] 60) = W0 := ⟨_, rfl⟩
 try rw [hW7]
 obtain ⟨hb7, z0, -, z2, -, -⟩ := box3 hW7
 clear hW7
 clear y0 y1 y2 hbl
 have hbz := hbz0.trans ((hb6.trans (hb7.mono hb6.size)).mono hbz0.size)
 refine nx (hK31 _ _ ?_)
 refine Fact.sq fun K32 hK32 => ?_
 refine Fact.sq fun K33 hK33 => ?_
 refine rg ?_
 have b31 := hf.b 31
 have b32 := hf.b 32
 have b33 := hf.b 33
 have b34 := hf.b 34
 have b35 := hf.b 35
 have b36 := hf.b 36
 have b37 := hf.b 37
 have b38 := hf.b 38
 have b39 := hf.b 39
 have b40 := hf.b 40
 have b41 := hf.b 41
 have b42 := hf.b 42
 have b43 := hf.b 43
 have b44 := hf.b 44
 have b45 := hf.b 45
 iterate 4 (refine fp fun K Z => ?_; go_simp; apply Z.out; clear Z K)
 refine og 3 34 false ?_ fun K Z => ?_
 · (
 simp (decide := true) only [Fact.G, reduceIte, hf.size, q2, q3, q4])
 go_simp
 apply Z.out; clear Z K
 refine og 3 34 false ?_ fun K Z => ?_
 · (
 simp (decide := true) only [Fact.G, reduceIte, hf.size, q2, q3, q4])
 go_simp
 apply Z.out; clear Z K
 refine og 3 34 false ?_ fun K Z => ?_
 · (
 simp (decide := true) only [Fact.G, reduceIte, hf.size, q2, q3, q4])
 go_simp
 apply Z.out; clear Z K
 refine og 3 34 false ?_ fun K Z => ?_
 · (
 simp (decide := true) only [Fact.G, reduceIte, hf.size, q2, q3, q4])
 go_simp
 apply Z.out; clear Z K
 iterate 2 (refine fp fun K Z => ?_; go_simp; apply Z.out; clear Z K)
 refine og 9 40 false ?_ fun K Z => ?_
 · (
 simp (decide := true) only [Fact.G, reduceIte, hf.size, q2, q3, q4])
 go_simp
 apply Z.out; clear Z K
 refine og 9 40 false ?_ fun K Z => ?_
 · (
 simp (decide := true) only [Fact.G, reduceIte, hf.size, q2, q3, q4])
 go_simp
 apply Z.out; clear Z K
 refine og 9 40 false ?_ fun K Z => ?_
 · (
 simp (decide := true) only [Fact.G, reduceIte, hf.size, q2, q3, q4])
 go_simp
 try simp (disch := omega) only [Fact.wrap_i64]
 apply Z.out; clear Z K
 refine og 9 40 false ?_ fun K Z => ?_
 · (
 simp (decide := true) only [Fact.G, reduceIte, hf.size, q2, q3, q4])
 go_simp
 apply Z.out; clear Z K
 refine og 9 40 false ?_ fun K Z => ?_
 · (
 simp (decide := true) only [Fact.G, reduceIte, hf.size, q2, q3, q4])
 go_simp
 apply Z.out; clear Z K
 refine fp fun K Z => ?_
 go_simp
 apply Z.out; clear Z K
 refine Fact.z hf fun fr1 hf1 hT => ?_
 have hKp : _ ∧ _ ∧ _ ∧ _ ∧ _ ∧ _ ∧ _ ∧ _ ∧ _ ∧ _ := ⟨hT 1, hT 3, hT 7, hT 9, hT 10, hT 11, hT 25, hT 26, hT 27, hT 46⟩
 simp (decide := true) only [Fact.G, hf.size, reduceIte, s1, s3, s7, s9, s10, s11, s25, s26, s27] at hKp
 replace hf := hf1; clear hT hf1 s1 s3 s5 s7 s9 s10 s11 s25 s26 s27 b31 b32 b33 b34 b35 b36 b37 b38 b39 b40 b41 b42 b43 b44 b45
 obtain ⟨s1, s3, s7, s9, s10, s11, s25, s26, s27, s46⟩ := hKp
 refine nx (hK33 _ _ ?_)
 refine Fact.cond_f s46 ?_
 have hoa3 : okArcs i (-1) s.arcs = okArcs i (a.byte : Int) (s.arcs.drop (k + 1)) := by rw [HOA.out, HAT.out]; have := HC.out; rw [decide_eq_true (show 0 ≤ a.to by omega), decide_eq_true (show a.to < (i : Int) by omega), decide_eq_true (show last < (a.byte : Int) by omega)]; rfl
 have HOA3 := Lib.hid hoa3; clear hoa3
 refine wp_skip ?_
 refine nx (hK32 _ _ ?_)
 refine rg ?_
 have b47 := hf.b 47
 have b48 := hf.b 48
 have b49 := hf.b 49
 iterate 2 (refine fp fun K Z => ?_; go_simp; apply Z.out; clear Z K)
 refine fp fun K Z => ?_
 go_simp
 try simp (disch := omega) only [Fact.wrap_i64]
 apply Z.out; clear Z K
 refine fp fun K Z => ?_
 go_simp
 apply Z.out; clear Z K
 refine Fact.z hf fun fr1 hf1 hT => ?_
 have hKp : _ ∧ _ ∧ _ ∧ _ ∧ _ ∧ _ ∧ _ ∧ _ ∧ _ := ⟨hT 1, hT 3, hT 5, hT 9, hT 10, hT 11, hT 25, hT 26, hT 27⟩
 simp (decide := true) only [Fact.G, hf.size, reduceIte, s1, s3, s9, s10, s11, s25, s26, s27] at hKp
 replace hf := hf1; clear hT hf1 s1 s3 s7 s9 s10 s11 s25 s26 s27 s46 b47 b48 b49
 obtain ⟨s1, s3, s5, s9, s10, s11, s25, s26, s27⟩ := hKp
 refine Fact.block_normal ?_
 refine nx (hK30 _ _ ?_)
 refine rg ?_
 have b50 := hf.b 50
 refine fp fun K Z => ?_
 go_simp
 try simp (disch := omega) only [Fact.W]
 apply Z.out; clear Z K
 refine fp fun K Z => ?_
 go_simp
 apply Z.out; clear Z K
 refine Fact.z hf fun fr1 hf1 hT => ?_
 have hKp : _ ∧ _ ∧ _ ∧ _ ∧ _ ∧ _ ∧ _ ∧ _ ∧ _ := ⟨hT 1, hT 3, hT 5, hT 9, hT 10, hT 11, hT 25, hT 26, hT 27⟩
 simp (decide := true) only [Fact.G, hf.size, reduceIte, s1, s3, s5, s9, s10, s11, s25, s26] at hKp
 replace hf := hf1; clear hT hf1 s1 s3 s5 s9 s10 s11 s25 s26 s27 b50
 obtain ⟨s1, s3, s5, s9, s10, s11, s25, s26, s27⟩ := hKp
 refine Fact.then_normal ?_
 exact ⟨_, by have := HK2.out; omega, k + 1, _, rfl, by omega, hf, s1, s3, s5, s9, s10, s11, s25, s26, by rw [s27]; rfl, HOA3.out, hb6.trans (hb7.mono hb6.size)⟩))
 · (
 have hke : k = s.arcs.length := by have h9 := of_decide_eq_false hq2; omega
 have hoa2 : okArcs i (-1) s.arcs = true := by rw [HOA.out, hke, List.drop_length]; rfl
 have HOA2 := Lib.hid hoa2; clear hoa2 hke hq2
 have hbr := hb.trans ((hb5.trans (hb6.mono hb5.size)).mono hb.size)
 refine wp_exit ?_
 refine Fact.then_exit ?_
 refine Fact.then_exit ?_
 refine Fact.block_exit ?_
 refine Fact.block_normal ?_
 refine nx (hK6 _ _ ?_)
 refine rg ?_
 have b51 := hf.b 51
 refine fp fun K Z => ?_
 go_simp
 try simp (disch := omega) only [Fact.W]
 apply Z.out; clear Z K
 refine fp fun K Z => ?_
 go_simp
 apply Z.out; clear Z K
 refine Fact.z hf fun fr1 hf1 hT => ?_
 have hKp : _ ∧ _ ∧ _ ∧ _ := ⟨hT 1, hT 9, hT 10, hT 11⟩
 simp (decide := true) only [Fact.G, hf.size, reduceIte, s1, s9, s10] at hKp
 replace hf := hf1; clear hT hf1 s1 s3 s5 s9 s10 s11 s25 s26 s27 s28 b51
 obtain ⟨s1, s9, s10, s11⟩ := hKp
 refine Fact.then_normal ?_
 exact ⟨_, by have := HK.out; omega, i + 1, rfl, by omega, hf, s1, s9, s10, by rw [s11]; rfl, by rw [HM.out, HST.out, HFO.out, HOA2.out]; rfl, hbr⟩))))
 · (
 have hie : i = ss.length := by have h9 := of_decide_eq_false hq; omega
 have HIE := Lib.hid hie; clear hie hq
 have e0 := cL hb c0
 refine wp_exit ?_
 refine Fact.then_exit ?_
 refine Fact.then_exit ?_
 refine Fact.block_exit ?_
 refine nx (hK2 _ _ ?_)
 refine Fact.sq fun K34 hK34 => ?_
 refine rg ?_
 have b52 := hf.b 52
 have b53 := hf.b 53
 have b54 := hf.b 54
 have b55 := hf.b 55
 iterate 5 (refine fp fun K Z => ?_; go_simp; apply Z.out; clear Z K)
 refine Fact.z hf fun fr1 hf1 hT => ?_
 have hKp := hT 2
 simp (decide := true) only [Fact.G, hf.size, reduceIte] at hKp
 replace hf := hf1; clear hT hf1 s1 s9 s10 s11 s12 b52 b53 b54 b55
 have s2 := hKp; clear hKp
 refine nx (hK34 _ _ ?_)
 refine wp_ret ?_
 refine Fact.ret1 rfl hf s2 ⟨?_, hb0.trans (hb.mono hb0.size)⟩
 rw [formedF, HM.out, HIE.out, List.drop_length]
 rfl))
end Dw
end Go.Proofs.YtdkbgbdgmihlmaaGreatDoor

namespace Go.Proofs.YtdkbgbdgmihlmaaGreatDoor
open Go.RowKit
set_option linter.unusedSimpArgs false
set_option linter.unusedVariables false
set_option linter.unnecessarySimpa false
namespace Dw

def wcs (l : List (Nat × Nat)) : List Value := l.flatMap fun x => [.int .i64 (x.1 : Int), .int .i64 (x.2 : Int)]
theorem wcs_length (l : List (Nat × Nat)) : (wcs l).length = l.length * 2 := by
  induction l with
  | nil => rfl
  | cons x l ih => simp only [wcs, List.flatMap_cons, List.length_append, List.length_cons] at ih ⊢; rw [ih]; simp; omega
theorem wcs_append (a b : List (Nat × Nat)) : wcs (a ++ b) = wcs a ++ wcs b := by simp [wcs]
/-- the way in memory; told with the last one first -/
structure OW (w : World) (base : Nat) (v : Value) (l : List (Nat × Nat)) : Prop where
  own : w.ownsRow base 120 2 v l.length (wcs l.reverse)
section
variable {w w' : World} {base n b c s k : Nat} {v : Value} {l R : List (Nat × Nat)}
theorem OW.one (w : World) (s : Nat) : OW (w.alloc (.cells #[.int .i64 (s : Int), .int .i64 0] 120)) w.heap.size (.slice (some ⟨w.heap.size, 0, none⟩) 1 1) [(s, 0)] :=
  ⟨World.ownsRow_lit w #[.int .i64 (s : Int), .int .i64 0] 1 (Nat.le_refl _) (by unfold maxLen; omega) rfl⟩
theorem OW.later (h : OW w base v l) (hb : Below w.heap.size w w') : OW w' base v l := ⟨own_later h.own hb⟩
theorem OW.form (h : OW w base v l) : ∃ A c, v = .slice A l.length c ∧ l.length ≤ c := row_form h.own
theorem OW.top {A : Option Addr} (h : OW w base (.slice A n c) ((s, k) :: R)) : ∃ b, A = some ⟨b, 0, none⟩ ∧ base ≤ b ∧ w.cell? ⟨b, R.length * 2, none⟩ = some (.int .i64 (s : Int)) ∧ w.cell? ⟨b, R.length * 2 + 1, none⟩ = some (.int .i64 (k : Int)) := by
  have h1 := h.own
  rcases h1.2 with ⟨_, h0⟩ | ⟨b, cap, cur, hv, hb, _⟩
  · simp at h0
  · injection hv with hv hn hc
    subst hv; subst hn; subst hc
    refine ⟨b, rfl, hb, ?_, ?_⟩
    · rw [h1.cellAt _ (by simp only [List.length_cons]; omega), List.reverse_cons, wcs_append, List.getElem?_append_right (by rw [wcs_length]; simp), wcs_length, List.length_reverse, Nat.sub_self]
      rfl
    · rw [h1.cellAt _ (by simp only [List.length_cons]; omega), List.reverse_cons, wcs_append, List.getElem?_append_right (by rw [wcs_length]; simp), wcs_length, List.length_reverse, show R.length * 2 + 1 - R.length * 2 = 1 by omega]
      rfl
theorem OW.frozen (h : OW w base (.slice (some ⟨b, 0, none⟩) (R.length + 1) c) ((s, k) :: R)) (i : Nat) : w.frozen? ⟨b, i, none⟩ = false := h.own.frozenAt i
theorem OW.bump (h : OW w base (.slice (some ⟨b, 0, none⟩) (R.length + 1) c) ((s, k) :: R)) : OW (w.setCell ⟨b, R.length * 2 + 1, none⟩ (.int .i64 ((k : Int) + 1))) base (.slice (some ⟨b, 0, none⟩) (R.length + 1) c) ((s, k + 1) :: R) := by
  have h1 := (World.ownsRow.stored h.own (R.length * 2 + 1) (.int .i64 ((k : Int) + 1))).1
  refine ⟨?_⟩
  have e : wcs ((s, k + 1) :: R).reverse = (wcs ((s, k) :: R).reverse).set (R.length * 2 + 1) (.int .i64 ((k : Int) + 1)) := by
    rw [List.reverse_cons, List.reverse_cons, wcs_append, wcs_append, List.set_append_right _ _ (by rw [wcs_length]; simp), wcs_length, List.length_reverse, show R.length * 2 + 1 - R.length * 2 = 1 by omega]
    rfl
  rw [e]
  exact h1
theorem OW.lat (h : OW w base v l) (o : Obj) : (w.alloc o).ownsRow base 120 2 v l.length (wcs l.reverse) := h.own.alloc o
theorem OW.push {w5 : World} {v5 : Value} {t : Nat} (h : w5.ownsRow base 120 2 v5 (l.length + 1) (wcs l.reverse ++ [.int .i64 (t : Int), .int .i64 0])) : OW w5 base v5 ((t, 0) :: l) := by
  refine ⟨?_⟩
  rw [List.reverse_cons, wcs_append, List.length_cons]
  exact h
theorem OW.cut (h : OW w base (.slice (some ⟨b, 0, none⟩) (R.length + 1) c) ((s, k) :: R)) : OW w base (.slice (some ⟨b, 0, none⟩) R.length c) R := by
  have h1 := own_take (n := R.length) h.own
  refine ⟨?_⟩
  rw [List.reverse_cons, wcs_append, List.take_append_of_le_length (by rw [wcs_length, List.length_reverse]; exact Nat.le_refl _), List.take_of_length_le (by rw [wcs_length, List.length_reverse]; exact Nat.le_refl _)] at h1
  exact h1
end
theorem beq_nat (a b : Nat) : ((a : Int) == (b : Int)) = decide (a = b) := by
  by_cases h : a = b
  · subst h; simp
  · rw [decide_eq_false h]
    exact beq_false_of_ne (by omega)
def okWay (n : Nat) : List (Nat × Nat) → Prop
  | [] => True
  | (s, _) :: R => s + R.length + 1 ≤ n ∧ okWay n R
theorem okWay_len {n : Nat} {l : List (Nat × Nat)} (h : okWay n l) : l.length ≤ n := by
  cases l with
  | nil => simp
  | cons x R => obtain ⟨s, k⟩ := x; have := h.1; simp only [List.length_cons]; omega
def phi (n left len : Nat) : Nat := (n - left) * (n + 2) + (n + 1 - len)
theorem phi_push (n left len : Nat) (h : len ≤ n) : phi n left (len + 1) < phi n left len := by unfold phi; omega
theorem phi_pop (n left len : Nat) (h : left < n) (hl : len + 1 ≤ n + 1) : phi n (left + 1) len < phi n left (len + 1) := by
  unfold phi
  obtain ⟨d, hd⟩ : ∃ d, n - left = d + 1 := ⟨n - left - 1, by omega⟩
  rw [show n - (left + 1) = d by omega, hd, Nat.succ_mul]
  omega
theorem info_atD : (Tryz.prog.info? 120).map (fun i => (i.zero, i.size, i.bytes)) = some (some (.agg #[.int .i64 0, .int .i64 0]), 2, 16) := by kernel_rfl
set_option maxHeartbeats 4000000 in
set_option maxRecDepth 100000 in
theorem ordered33 (w : World) (sv : Value) (init : Nat) (ss : List State) (hrs : RS w sv ss) (hok : ∀ s ∈ ss, okS s) (hlen : ss.length ≤ 1000000) (h0 : 0 < ss.length) (hA : Ahead ss) : Calls Tryz.prog 34 #[.agg #[sv, .int .u64 init]] w fun e w1 => e = .returned (.bool (orderedF ss)) ∧ Below w.heap.size w w1 := by
 refine calls_of_wp Tryz.func34 rfl ?_
 refine Fact.en 79 fun fr hf hT => ?_
 have s0 := hT 0 _ rfl
 clear hT
 obtain ⟨A, cc, rfl, hcc⟩ := hrs.form
 have hn1 : ((ss.length : Int) - 1) = ((ss.length - 1 : Nat) : Int) := by omega
 refine Fact.sq fun K1 hK1 => ?_
 refine rg ?_
 iterate 2 (refine fp fun K Z => ?_; go_simp; apply Z.out; clear Z K)
 refine Fact.z hf fun fr1 hf1 hT => ?_
 have hKp : _ ∧ _ := ⟨hT 1, hT 2⟩
 simp (decide := true) only [Fact.G, hf.size, reduceIte] at hKp
 replace hf := hf1; clear hT hf1 s0
 obtain ⟨s1, s2⟩ := hKp
 obtain ⟨W0, hW0⟩ : ∃ W0, w.alloc (.cells #[.slice A ss.length cc, .int .u64 init] 33) = W0 := ⟨_, rfl⟩
 try rw [hW0]
 obtain ⟨hb0, c0, c1, -, hz0_⟩ := box2 hW0
 clear hW0
 have hz0 : w.heap.size < W0.heap.size := by rw [hz0_]; exact Nat.lt_succ_self _
 clear hz0_
 have hr0 := hrs.later hb0
 clear hrs
 refine nx (hK1 _ _ ?_)
 refine wp_scope_straight ?_
 refine Fact.sq fun K2 hK2 => ?_
 refine rg ?_
 refine fp fun K Z => ?_
 go_simp
 apply Z.out; clear Z K
 refine Fact.z hf fun fr1 hf1 hT => ?_
 have hKp : _ ∧ _ ∧ _ := ⟨hT 1, hT 2, hT 3⟩
 simp (decide := true) only [Fact.G, hf.size, reduceIte, s1, s2] at hKp
 replace hf := hf1; clear hT hf1 s1 s2
 obtain ⟨s1, s2, s3⟩ := hKp
 refine nx (hK2 _ _ ?_)
 refine Fact.sq fun K3 hK3 => ?_
 refine rg ?_
 have b8 := hf.b 8
 have b9 := hf.b 9
 have b10 := hf.b 10
 have b11 := hf.b 11
 have b12 := hf.b 12
 have b13 := hf.b 13
 iterate 3 (refine fp fun K Z => ?_; go_simp; apply Z.out; clear Z K)
 refine fp fun K Z => ?_
 go_simp
 try simp (disch := omega) only [Fact.W]
 try rw [hn1]
 apply Z.out; clear Z K
 iterate 3 (refine fp fun K Z => ?_; go_simp; apply Z.out; clear Z K)
 refine Fact.z hf fun fr1 hf1 hT => ?_
 have hKp : _ ∧ _ ∧ _ ∧ _ := ⟨hT 1, hT 2, hT 3, hT 4⟩
 simp (decide := true) only [Fact.G, hf.size, reduceIte, s1, s2, s3] at hKp
 replace hf := hf1; clear hT hf1 s1 s2 s3 b8 b9 b10 b11 b12 b13
 obtain ⟨s1, s2, s3, s4⟩ := hKp
 obtain ⟨W1, hW1⟩ : ∃ W1, W0.alloc (.cells #[.int .i64 ((ss.length - 1 : Nat) : Int), .int .i64 0] 120) = W1 := ⟨_, rfl⟩
 try rw [hW1]
 have hOW := OW.one W0 (ss.length - 1); rw [hW1] at hOW
 have hb1 : Below W0.heap.size W0 W1 := by rw [← hW1]; exact (Below.refl _ _).alloc (Nat.le_refl _) _
 clear hW1 hn1
 refine nx (hK3 _ _ ?_)
 refine Fact.sq fun K4 hK4 => ?_
 refine wp_label ?_
 refine nx (hK4 _ _ ?_)
 refine Fact.sq fun K5 hK5 => ?_
 refine wp_block ?_
 have HO := Lib.hid hok; clear hok
 refine wp_loop_ghost (fun gk fr wr => ∃ (left : Nat) (V : Value) (Wy : List (Nat × Nat)), gk = phi ss.length left Wy.length ∧ Fact.Fr 79 fr ∧ fr.tmps[1]? = some (.pointer (some ⟨w.heap.size, 0, none⟩)) ∧ fr.tmps[3]? = some (.int .i64 left) ∧ fr.tmps[4]? = some V ∧ OW wr W0.heap.size V Wy ∧ contW ss Wy left = orderedF ss ∧ okWay ss.length Wy ∧ left ≤ ss.length ∧ Below W0.heap.size W0 wr) (phi ss.length 0 1) ?_ ?_
 · (
 exact ⟨0, _, [(ss.length - 1, 0)], rfl, hf, s1, s3, s4, hOW, rfl, ⟨by simp; omega, trivial⟩, Nat.zero_le _, hb1⟩)
 · (
 clear hf s1 s2 s3 s4
 rintro gk fr wr ⟨left, V, Wy, hk, hf, s1, s3, s4, how, hct, hwy, hlf, hb⟩
 have HK := Lib.hid hk; have HC := Lib.hid hct; clear hk hct
 obtain ⟨AV, cv, rfl, hcv⟩ := how.form
 have hwl := okWay_len hwy
 refine Fact.sq fun K6 hK6 => ?_
 refine Fact.sq fun K7 hK7 => ?_
 refine rg ?_
 have b14 := hf.b 14
 have b15 := hf.b 15
 iterate 3 (refine fp fun K Z => ?_; go_simp; apply Z.out; clear Z K)
 refine Fact.z hf fun fr1 hf1 hT => ?_
 have hKp : _ ∧ _ ∧ _ ∧ _ := ⟨hT 1, hT 3, hT 4, hT 16⟩
 simp (decide := true) only [Fact.G, hf.size, reduceIte, s1, s3, s4] at hKp
 replace hf := hf1; clear hT hf1 s1 s3 s4 b14 b15
 obtain ⟨s1, s3, s4, s16⟩ := hKp
 refine nx (hK7 _ _ ?_)
 refine Fact.cond_s s16 (fun hq => ?_) (fun hq => ?_)
 · (
 obtain ⟨⟨s, k⟩, R, rfl⟩ := List.exists_cons_of_ne_nil (show Wy ≠ [] by rintro rfl; simp at hq)
 have HQ := Lib.hid hq; clear hq
 obtain ⟨b, rfl, hbB, d0, d1⟩ := how.top
 have hs1 := hwy.1
 simp only [List.length_cons] at *
 obtain ⟨st, hst⟩ : ∃ st, ss[s]? = some st := ⟨_, List.getElem?_eq_getElem (by omega)⟩
 have hsa : arcsOf ss s = st.arcs := by simp [arcsOf, hst]
 obtain ⟨b2, off2, av, he2, hat0⟩ := hr0.at_ hst
 subst he2
 have hrA := hat0.arcs
 have d5 := old_cell hb hat0.c0 (cell_lt0 hat0.c0)
 obtain ⟨A2, c2, rfl, hc2⟩ := hrA.form
 have hos := HO.out st (List.mem_of_getElem? hst)
 have hal := hos.2.1
 have HSA := Lib.hid hsa; have HST := Lib.hid hst; clear hsa hst hat0 hos
 have e0 := old_cell hb c0 hz0
 have hssl := hlen
 refine wp_skip ?_
 refine nx (hK6 _ _ ?_)
 refine wp_block ?_
 refine Fact.sq fun K8 hK8 => ?_
 refine rg ?_
 have b17 := hf.b 17
 have b18 := hf.b 18
 have b19 := hf.b 19
 have b20 := hf.b 20
 have b21 := hf.b 21
 iterate 3 (refine fp fun K Z => ?_; go_simp; apply Z.out; clear Z K)
 refine fp fun K Z => ?_
 go_simp
 try simp (disch := omega) only [Fact.W]
 try rw [show ((R.length : Int) + 1 - 1) = (R.length : Int) by omega]
 apply Z.out; clear Z K
 refine fp fun K Z => ?_
 go_simp
 try rw [if_pos (by omega)]
 apply Z.out; clear Z K
 refine fp fun K Z => ?_
 go_simp
 apply Z.out; clear Z K
 refine Fact.z hf fun fr1 hf1 hT => ?_
 have hKp : _ ∧ _ ∧ _ ∧ _ := ⟨hT 1, hT 3, hT 4, hT 5⟩
 simp (decide := true) only [Fact.G, hf.size, reduceIte, s1, s3, s4] at hKp
 replace hf := hf1; clear hT hf1 s1 s3 s4 s16 b17 b18 b19 b20 b21
 obtain ⟨s1, s3, s4, s5⟩ := hKp
 refine nx (hK8 _ _ ?_)
 refine Fact.sq fun K9 hK9 => ?_
 refine Stab.tb 79 fun hok => ?_
 apply Stab.tq 0 _ hf hok
 · (
 intro fr1 w1 hh hd hk K Z
 have s1 := Stab.O hh s1
 clear hd
 go_simp
 exact Stab.k Z)
 apply Stab.tq 1 _ hf hok
 · (
 intro fr1 w1 hh hd hk K Z
 have s22 := Stab.v 0 0 hd hk []
 clear hd
 replace e0 := cL hh.ext e0
 replace d0 := cL hh.ext d0
 replace d5 := cL hh.ext d5
 go_simp
 exact Stab.k Z)
 refine Stab.mO 2 s5 hf hok ?_
 apply Stab.tq 3 _ hf hok
 · (
 intro fr1 w1 hh hd hk K Z
 have s24 := Stab.v 2 0 hd hk []
 clear hd
 go_simp
 exact Stab.k Z)
 apply Stab.tq 4 _ hf hok
 · (
 intro fr1 w1 hh hd hk K Z
 have s25 := Stab.v 3 0 hd hk []
 clear hd
 go_simp
 exact Stab.k Z)
 apply Stab.tq 5 _ hf hok
 · (
 intro fr1 w1 hh hd hk K Z
 have s26 := Stab.v 4 0 hd hk []
 clear hd
 replace e0 := cL hh.ext e0
 replace d0 := cL hh.ext d0
 replace d5 := cL hh.ext d5
 go_simp
 exact Stab.k Z)
 apply Stab.tq 6 _ hf hok
 · (
 intro fr1 w1 hh hd hk K Z
 have s23 := Stab.v 1 4 hd hk []
 have s27 := Stab.v 5 0 hd hk []
 clear hd
 go_simp
 try rw [if_pos (by omega)]
 exact Stab.k Z)
 apply Stab.tq 7 _ hf hok
 · (
 intro fr1 w1 hh hd hk K Z
 have s28 := Stab.v 6 0 hd hk []
 clear hd
 go_simp
 exact Stab.k Z)
 apply Stab.tq 8 _ hf hok
 · (
 intro fr1 w1 hh hd hk K Z
 have s29 := Stab.v 7 0 hd hk []
 clear hd
 replace e0 := cL hh.ext e0
 replace d0 := cL hh.ext d0
 replace d5 := cL hh.ext d5
 go_simp
 exact Stab.k Z)
 refine Stab.mN 9 8 0 hf hok [] ?_
 refine Stab.tf hf hok fun fr1 w1 hh hg => ?_
 replace s1 := Stab.O hh s1
 replace s3 := Stab.O hh s3
 replace s4 := Stab.O hh s4
 replace s5 := Stab.O hh s5
 have s6 := Stab.f 9 0 hg
 have hf1 := hh.fr hf
 have hx := hh.ext
 replace e0 := cL hx e0
 replace d0 := cL hx d0
 replace d5 := cL hx d5
 clear hg hh hf hok
 have hf := hf1; clear hf1
 refine nx (hK9 _ _ ?_)
 have how1 := how.later hx
 have hbx := hb.trans (hx.mono hb.size)
 clear e0 d0 d5 d1
 refine Fact.sq fun K10 hK10 => ?_
 refine wp_block ?_
 refine wp_loop_ghost (fun gk2 fr wr2 => ∃ (k2 : Nat), gk2 = st.arcs.length - k2 ∧ Fact.Fr 79 fr ∧ fr.tmps[1]? = some (.pointer (some ⟨w.heap.size, 0, none⟩)) ∧ fr.tmps[3]? = some (.int .i64 left) ∧ fr.tmps[4]? = some (.slice (some ⟨b, 0, none⟩) (R.length + 1) cv) ∧ fr.tmps[5]? = some (.pointer (some ⟨b, R.length * 2, none⟩)) ∧ fr.tmps[6]? = some (.slice A2 st.arcs.length c2) ∧ OW wr2 W0.heap.size (.slice (some ⟨b, 0, none⟩) (R.length + 1) cv) ((s, k2) :: R) ∧ contW ss ((s, k2) :: R) left = orderedF ss ∧ Below W0.heap.size W0 wr2) (st.arcs.length - k) ?_ ?_
 · (
 exact ⟨k, rfl, hf, s1, s3, s4, s5, s6, how1, HC.out, hbx⟩)
 · (
 clear hf s1 s3 s4 s5 s6
 rintro gk2 fr wr2 ⟨k2, hk2, hf, s1, s3, s4, s5, s6, how2, hct2, hb2⟩
 have HK2 := Lib.hid hk2; have HC2 := Lib.hid hct2; clear hk2 hct2
 obtain ⟨b9, he9, _, f0, f1⟩ := how2.top
 injection he9 with he9
 injection he9 with he9
 subst he9
 refine Fact.sq fun K11 hK11 => ?_
 refine Fact.sq fun K12 hK12 => ?_
 refine rg ?_
 have b31 := hf.b 31
 have b32 := hf.b 32
 have b33 := hf.b 33
 have b34 := hf.b 34
 have b35 := hf.b 35
 have b36 := hf.b 36
 iterate 7 (refine fp fun K Z => ?_; go_simp; apply Z.out; clear Z K)
 refine Fact.z hf fun fr1 hf1 hT => ?_
 have hKp : _ ∧ _ ∧ _ ∧ _ ∧ _ ∧ _ := ⟨hT 1, hT 3, hT 4, hT 5, hT 6, hT 37⟩
 simp (decide := true) only [Fact.G, hf.size, reduceIte, s1, s3, s4, s5, s6] at hKp
 replace hf := hf1; clear hT hf1 s1 s3 s4 s5 s6 b31 b32 b33 b34 b35 b36
 obtain ⟨s1, s3, s4, s5, s6, s37⟩ := hKp
 refine nx (hK12 _ _ ?_)
 refine Fact.cond_s s37 (fun hq2 => ?_) (fun hq2 => ?_)
 · (
 have hklt : k2 < st.arcs.length := by have h9 := of_decide_eq_true hq2; omega
 have HQ2 := Lib.hid hq2; clear hq2
 obtain ⟨a, hka⟩ : ∃ a, st.arcs[k2]? = some a := ⟨_, List.getElem?_eq_getElem hklt⟩
 obtain ⟨b3, off3, rfl, hbl, _, _, y2⟩ := hrA.at' hka
 have z2 := old_cell hb2 y2 (cell_lt0 y2)
 have hka2 : (arcsOf ss s)[k2]? = some a := by rw [HSA.out]; exact hka
 have haa := hA s a (List.mem_of_getElem? hka2)
 obtain ⟨t, ht⟩ : ∃ t : Nat, a.to = (t : Int) := ⟨a.to.toNat, by omega⟩
 have htt : a.to.toNat = t := by omega
 have hts : t < s := by omega
 have HT := Lib.hid ht; have HTT := Lib.hid htt; have HKA := Lib.hid hka2
 rw [ht] at z2
 clear hka hka2 ht htt haa y2
 have fz := how2.frozen (R.length * 2 + 1)
 have hst2 := how2.bump
 refine wp_skip ?_
 refine nx (hK11 _ _ ?_)
 refine wp_block ?_
 refine Fact.sq fun K13 hK13 => ?_
 refine rg ?_
 have b38 := hf.b 38
 have b39 := hf.b 39
 have b40 := hf.b 40
 have b41 := hf.b 41
 have b42 := hf.b 42
 have b43 := hf.b 43
 have b44 := hf.b 44
 have b45 := hf.b 45
 iterate 5 (refine fp fun K Z => ?_; go_simp; apply Z.out; clear Z K)
 refine fp fun K Z => ?_
 go_simp
 try rw [if_pos (by omega)]
 apply Z.out; clear Z K
 iterate 3 (refine fp fun K Z => ?_; go_simp; apply Z.out; clear Z K)
 refine Fact.z hf fun fr1 hf1 hT => ?_
 have hKp : _ ∧ _ ∧ _ ∧ _ ∧ _ ∧ _ := ⟨hT 1, hT 3, hT 4, hT 5, hT 6, hT 7⟩
 simp (decide := true) only [Fact.G, hf.size, reduceIte, s1, s3, s4, s5, s6] at hKp
 replace hf := hf1; clear hT hf1 s1 s3 s4 s5 s6 s37 b38 b39 b40 b41 b42 b43 b44 b45
 obtain ⟨s1, s3, s4, s5, s6, s7⟩ := hKp
 refine nx (hK13 _ _ ?_)
 refine Fact.sq fun K14 hK14 => ?_
 refine rg ?_
 have b46 := hf.b 46
 have b47 := hf.b 47
 have b48 := hf.b 48
 have b49 := hf.b 49
 have b50 := hf.b 50
 have b51 := hf.b 51
 have b52 := hf.b 52
 iterate 4 (refine fp fun K Z => ?_; go_simp; apply Z.out; clear Z K)
 refine fp fun K Z => ?_
 go_simp
 try simp (disch := omega) only [Fact.W]
 apply Z.out; clear Z K
 iterate 3 (refine fp fun K Z => ?_; go_simp; apply Z.out; clear Z K)
 refine Fact.z hf fun fr1 hf1 hT => ?_
 have hKp : _ ∧ _ ∧ _ ∧ _ ∧ _ ∧ _ := ⟨hT 1, hT 3, hT 4, hT 5, hT 6, hT 7⟩
 simp (decide := true) only [Fact.G, reduceIte, s1, s3, s4, s5, s6, s7] at hKp
 replace hf := hf1; clear hT hf1 s1 s3 s4 s5 s6 s7 b46 b47 b48 b49 b50 b51 b52
 obtain ⟨s1, s3, s4, s5, s6, s7⟩ := hKp
 refine nx (hK14 _ _ ?_)
 refine Fact.sq fun K15 hK15 => ?_
 refine rg ?_
 have b53 := hf.b 53
 have b54 := hf.b 54
 iterate 3 (refine fp fun K Z => ?_; go_simp; apply Z.out; clear Z K)
 refine Fact.z hf fun fr1 hf1 hT => ?_
 have hKp : _ ∧ _ ∧ _ ∧ _ ∧ _ ∧ _ ∧ _ := ⟨hT 1, hT 3, hT 4, hT 5, hT 6, hT 7, hT 55⟩
 simp (decide := true) only [Fact.G, hf.size, reduceIte, s1, s3, s4, s5, s6, s7] at hKp
 replace hf := hf1; clear hT hf1 s1 s3 s4 s5 s6 s7 b53 b54
 obtain ⟨s1, s3, s4, s5, s6, s7, s55⟩ := hKp
 refine nx (hK15 _ _ ?_)
 have hb3 : Below W0.heap.size W0 (wr2.setCell ⟨b, R.length * 2 + 1, none⟩ (.int .i64 ((k2 : Int) + 1))) := hb2.setCell (p := ⟨b, R.length * 2 + 1, none⟩) hbB _
 obtain ⟨W3, hW3⟩ : ∃ W3, wr2.setCell ⟨b, R.length * 2 + 1, none⟩ (.int .i64 ((k2 : Int) + 1)) = W3 := ⟨_, rfl⟩
 rw [hW3] at hb3 hst2
 try rw [hW3]
 clear hW3 f0 f1 z2
 refine Fact.cond_s s55 (fun hq3 => ?_) (fun hq3 => ?_)
 · (
 have hge : (left : Int) ≤ a.to := by rw [HT.out]; have h9 := of_decide_eq_true hq3; omega
 have hcp := cont_push (rest := R) hA HKA.out hge
 rw [HTT.out] at hcp
 have HCP := Lib.hid hcp; clear hcp hge
 have HQ3 := Lib.hid hq3; clear hq3
 refine Fact.sq fun K16 hK16 => ?_
 refine rg ?_
 have b56 := hf.b 56
 have b57 := hf.b 57
 have b58 := hf.b 58
 have b59 := hf.b 59
 have b60 := hf.b 60
 iterate 4 (refine fp fun K Z => ?_; go_simp; apply Z.out; clear Z K)
 refine Fact.reL (n := 79) (by simp only [Fact.G, hf.size]) hf.defers (fun fr1 hf1 hT => ?_)
 have hKp : _ ∧ _ ∧ _ ∧ _ ∧ _ := ⟨hT 1, hT 3, hT 4, hT 56, hT 59⟩
 simp (decide := true) only [Fact.G, hf.size, reduceIte, s1, s3, s4] at hKp
 replace hf := hf1; clear hT hf1 s1 s3 s4 s5 s6 s7 s55 b56 b57 b58 b59 b60
 obtain ⟨s1, s3, s4, s56, s59⟩ := hKp
 have b60 := hf.b 60
 refine ⟨?_⟩
 refine wpList_plain rfl fun K5 hK5 => ?_
 refine wp_app _ _ 121 rfl 120 _ 2 16 Tryz.underlying121 info_atD rfl (by decide) (by decide) W0.heap.size (.slice (some ⟨b, 0, none⟩) (R.length + 1) cv) (R.length + 1) _ (Fact.eval_tmp s56) (OW.lat hst2 _) W3.heap.size [.int .i64 (t : Int), .int .i64 0] (Fact.eval_tmp s59) rfl (lit_new W3 _ _) (by intro u hu; simp at hu; rcases hu with rfl | rfl <;> rfl) (by omega) (by have := hb3.size; simp; omega) (fun v5 w5 hr5 hg5 hat5 => hK5 _ _ ?_)
 refine Fact.L.out ?_
 refine fp fun K Z => ?_
 go_simp
 apply Z.out; clear Z K
 refine Fact.z hf fun fr1 hf1 hT => ?_
 have hKp : _ ∧ _ ∧ _ := ⟨hT 1, hT 3, hT 4⟩
 simp (decide := true) only [Fact.G, hf.size, reduceIte, s1, s3] at hKp
 replace hf := hf1; clear hT hf1 s1 s3 s4 s56 s59 b60
 obtain ⟨s1, s3, s4⟩ := hKp
 have how5 := OW.push hr5
 have hb5 : Below W0.heap.size W0 w5 := (hb3.alloc hb3.size _).grown hg5 (by have := hb3.size; simp; omega) (fun kk hkk => by injection hkk with hkk; subst hkk; exact hbB)
 refine nx (hK16 _ _ ?_)
 refine wp_exit ?_
 refine Fact.block_other (by decide) ?_
 refine Fact.then_exit ?_
 refine Fact.block_other (by decide) ?_
 refine Fact.then_exit ?_
 refine Fact.block_exit ?_
 refine Fact.then_normal ?_
 exact ⟨_, by have := HK.out; rw [this]; exact phi_push _ _ _ (by omega), left, v5, (t, 0) :: (s, k2 + 1) :: R, rfl, hf, s1, s3, s4, how5, by rw [← HCP.out]; exact HC2.out, ⟨by simp only [List.length_cons]; omega, hwy⟩, hlf, hb5⟩)
 · (
 have hge : ¬ (left : Int) ≤ a.to := by rw [HT.out]; have h9 := of_decide_eq_false hq3; omega
 have hcn := cont_next (rest := R) HKA.out hge
 have HCN := Lib.hid hcn; clear hcn hge
 have HQ3 := Lib.hid hq3; clear hq3
 refine wp_skip ?_
 refine Fact.block_normal ?_
 refine Fact.then_normal ?_
 exact ⟨_, by have := HK2.out; omega, k2 + 1, rfl, hf, s1, s3, s4, s5, s6, hst2, by rw [← HCN.out]; exact HC2.out, hb3⟩))
 · (
 have hle : st.arcs.length ≤ k2 := by have h9 := of_decide_eq_false hq2; omega
 have hce := cont_end (left := left) (rest := R) (show (arcsOf ss s).length ≤ k2 by rw [HSA.out]; exact hle)
 have HCE := Lib.hid hce; clear hce hq2
 refine wp_exit ?_
 refine Fact.then_exit ?_
 refine Fact.then_exit ?_
 refine Fact.block_exit ?_
 refine nx (hK10 _ _ ?_)
 refine Fact.sq fun K17 hK17 => ?_
 refine Fact.sq fun K18 hK18 => ?_
 refine rg ?_
 have b61 := hf.b 61
 have b62 := hf.b 62
 have b63 := hf.b 63
 have b64 := hf.b 64
 have b65 := hf.b 65
 iterate 6 (refine fp fun K Z => ?_; go_simp; apply Z.out; clear Z K)
 refine Fact.z hf fun fr1 hf1 hT => ?_
 have hKp : _ ∧ _ ∧ _ ∧ _ := ⟨hT 1, hT 3, hT 4, hT 66⟩
 simp (decide := true) only [Fact.G, hf.size, reduceIte, s1, s3, s4] at hKp
 replace hf := hf1; clear hT hf1 s1 s3 s4 s5 s6 s37 b61 b62 b63 b64 b65
 obtain ⟨s1, s3, s4, s66⟩ := hKp
 refine nx (hK18 _ _ ?_)
 refine Fact.cond_s s66 (fun hq3 => ?_) (fun hq3 => ?_)
 · (
 have hne : s ≠ left := by simp at hq3; omega
 have hfin : orderedF ss = false := by rw [← HC2.out, HCE.out, if_neg hne]
 have HFN := Lib.hid hfin; clear hfin hq3
 refine Fact.sq fun K19 hK19 => ?_
 refine rg ?_
 refine fp fun K Z => ?_
 go_simp
 apply Z.out; clear Z K
 refine Fact.z hf fun fr1 hf1 hT => ?_
 have hKp := hT 2
 simp (decide := true) only [Fact.G, hf.size, reduceIte] at hKp
 replace hf := hf1; clear hT hf1 s1 s3 s4 s66
 have s2 := hKp; clear hKp
 refine nx (hK19 _ _ ?_)
 refine wp_ret ?_
 refine Fact.then_ret ?_
 refine Fact.block_ret ?_
 refine Fact.then_ret ?_
 refine Fact.block_ret ?_
 refine Fact.then_ret ?_
 refine Fact.scope_r ?_
 exact Fact.ret1 rfl hf s2 ⟨by rw [HFN.out], hb0.trans (hb2.mono (Nat.le_of_lt hz0))⟩)
 · (
 have heq : s = left := by simp at hq3; omega
 have hcp : contW ss R (left + 1) = orderedF ss := by rw [← HC2.out, HCE.out, if_pos heq]
 have HCP := Lib.hid hcp; clear hcp hq3
 have HEQ := Lib.hid heq; clear heq
 clear f0 f1
 refine wp_skip ?_
 refine nx (hK17 _ _ ?_)
 refine Fact.sq fun K20 hK20 => ?_
 refine rg ?_
 have b67 := hf.b 67
 have b68 := hf.b 68
 refine fp fun K Z => ?_
 go_simp
 apply Z.out; clear Z K
 refine fp fun K Z => ?_
 go_simp
 try simp (disch := omega) only [Fact.W]
 apply Z.out; clear Z K
 refine fp fun K Z => ?_
 go_simp
 apply Z.out; clear Z K
 refine Fact.z hf fun fr1 hf1 hT => ?_
 have hKp : _ ∧ _ ∧ _ := ⟨hT 1, hT 3, hT 4⟩
 simp (decide := true) only [Fact.G, hf.size, reduceIte, s1, s4] at hKp
 replace hf := hf1; clear hT hf1 s1 s3 s4 s66 b67 b68
 obtain ⟨s1, s3, s4⟩ := hKp
 refine nx (hK20 _ _ ?_)
 refine rg ?_
 have b69 := hf.b 69
 have b70 := hf.b 70
 have b71 := hf.b 71
 have b72 := hf.b 72
 have b73 := hf.b 73
 iterate 3 (refine fp fun K Z => ?_; go_simp; apply Z.out; clear Z K)
 refine fp fun K Z => ?_
 go_simp
 try simp (disch := omega) only [Fact.W]
 try rw [show ((R.length : Int) + 1 - 1) = (R.length : Int) by omega]
 apply Z.out; clear Z K
 refine fp fun K Z => ?_
 go_simp
 try rw [if_pos (by omega)]
 apply Z.out; clear Z K
 refine fp fun K Z => ?_
 go_simp
 apply Z.out; clear Z K
 refine Fact.z hf fun fr1 hf1 hT => ?_
 have hKp : _ ∧ _ ∧ _ := ⟨hT 1, hT 3, hT 4⟩
 simp (decide := true) only [Fact.G, hf.size, reduceIte, s1, s3] at hKp
 replace hf := hf1; clear hT hf1 s1 s3 s4 b69 b70 b71 b72 b73
 obtain ⟨s1, s3, s4⟩ := hKp
 refine Fact.block_normal ?_
 refine Fact.then_normal ?_
 have hlv : left < ss.length := by have := HEQ.out; omega
 exact ⟨_, by have := HK.out; rw [this]; exact phi_pop _ _ _ hlv (by omega), left + 1, _, R, rfl, hf, s1, s3, s4, how2.cut, HCP.out, hwy.2, by omega, hb2⟩))))
 · (
 have hwe : Wy = [] := by have h9 := of_decide_eq_false hq; exact List.eq_nil_of_length_eq_zero (by omega)
 subst hwe
 have e0 := old_cell hb c0 hz0
 have hfin : orderedF ss = decide (left = ss.length) := HC.out.symm
 have HFN := Lib.hid hfin; clear hfin
 refine wp_exit ?_
 refine Fact.then_exit ?_
 refine Fact.then_exit ?_
 refine Fact.block_exit ?_
 refine nx (hK5 _ _ ?_)
 refine Fact.sq fun K21 hK21 => ?_
 refine rg ?_
 have b74 := hf.b 74
 have b75 := hf.b 75
 have b76 := hf.b 76
 have b77 := hf.b 77
 have b78 := hf.b 78
 iterate 6 (refine fp fun K Z => ?_; go_simp; apply Z.out; clear Z K)
 refine Fact.z hf fun fr1 hf1 hT => ?_
 have hKp := hT 2
 simp (decide := true) only [Fact.G, hf.size, reduceIte] at hKp
 replace hf := hf1; clear hT hf1 s1 s3 s4 s16 b74 b75 b76 b77 b78
 have s2 := hKp; clear hKp
 refine nx (hK21 _ _ ?_)
 refine wp_ret ?_
 refine Fact.scope_r ?_
 exact Fact.ret1 rfl hf s2 ⟨by rw [HFN.out, ← beq_nat], hb0.trans (hb.mono (Nat.le_of_lt hz0))⟩))
end Dw
end Go.Proofs.YtdkbgbdgmihlmaaGreatDoor

namespace Go.Proofs.YtdkbgbdgmihlmaaGreatDoor
open Go.RowKit
set_option linter.unusedSimpArgs false
set_option linter.unusedVariables false
set_option linter.unnecessarySimpa false
namespace Dw

open Go.Maps
theorem okArcs_all : ∀ (l : List Arc) (i : Nat) (last : Int), okArcs i last l = true → ∀ a ∈ l, 0 ≤ a.to ∧ a.to < (i : Int)
  | [], _, _, _ => by simp
  | a :: l, i, last, h => by
    simp only [okArcs, Bool.and_eq_true, decide_eq_true_eq] at h
    intro x hx
    rcases List.mem_cons.1 hx with rfl | hx
    · exact ⟨h.1.1.1, h.1.1.2⟩
    · exact okArcs_all l i _ h.2 x hx
theorem okArcs_len : ∀ (l : List Arc) (i : Nat) (last : Int), okArcs i last l = true → (∀ a ∈ l, a.byte < 256) → -1 ≤ last → last ≤ 255 → (l.length : Int) ≤ 255 - last
  | [], _, _, _, _, _, h => by simp; omega
  | a :: l, i, last, h, hb, h1, h2 => by
    simp only [okArcs, Bool.and_eq_true, decide_eq_true_eq] at h
    have h3 := hb a (List.mem_cons_self ..)
    have := okArcs_len l i (a.byte : Int) h.2 (fun x hx => hb x (List.mem_cons_of_mem _ hx)) (by omega) (by omega)
    simp only [List.length_cons]
    omega
theorem formedL_all : ∀ (l : List State) (i : Nat), formedL i l = true → ∀ (j : Nat) (s : State), l[j]? = some s → okArcs (i + j) (-1) s.arcs = true
  | [], _, _, j, s, hj => by simp at hj
  | x :: l, i, h, j, s, hj => by
    simp only [formedL, Bool.and_eq_true] at h
    cases j with
    | zero => injection hj with hj; subst hj; exact h.1.2
    | succ j => rw [show i + (j + 1) = (i + 1) + j by omega]; exact formedL_all l (i + 1) h.2 j s hj
theorem formed_at {ss : List State} (h : formedF ss = true) {j : Nat} {s : State} (hj : ss[j]? = some s) : okArcs j (-1) s.arcs = true := by
  unfold formedF at h
  rw [Bool.and_eq_true] at h
  have := formedL_all ss 0 h.1 j s hj
  rwa [Nat.zero_add] at this
theorem formed_pos {ss : List State} (h : formedF ss = true) : 0 < ss.length := by
  unfold formedF at h
  rw [Bool.and_eq_true] at h
  exact of_decide_eq_true h.2
theorem formed_ahead {ss : List State} (h : formedF ss = true) : Ahead ss := by
  intro s a ha
  unfold arcsOf at ha
  cases hs : ss[s]? with
  | none => rw [hs] at ha; simp at ha
  | some st => rw [hs] at ha; exact okArcs_all _ _ _ (formed_at h hs) a (by simpa using ha)
theorem formed_okK {ss : List State} (h : formedF ss = true) (hok : ∀ s ∈ ss, okS s) : ∀ s ∈ ss, okK s := by
  intro s hs
  obtain ⟨j, hj⟩ := List.mem_iff_getElem?.1 hs
  have h1 := formed_at h hj
  have h2 := hok s hs
  refine ⟨h2, fun a ha => (okArcs_all _ _ _ h1 a ha).1, ?_⟩
  have := okArcs_len _ _ _ h1 (fun a ha => (h2.2.2 a ha).1) (by omega) (by omega)
  omega
theorem getLast_of {ss : List State} {r : State} (h : ss[ss.length - 1]? = some r) : ss.getLast? = some r := by rw [List.getLast?_eq_getElem?]; exact h
def ownR (base : Nat) (k : Nat) : Nat := if k < base then 4 else if k = base then 3 else if k = base + 1 then 1 else 0
theorem Reg.start (w0 : World) {W : World} (hW : (w0.alloc (.map #[] 0)).alloc (.cells #[.slice none 0 0, .map (some w0.heap.size)] 72) = W) :
    Reg W w0.heap.size (ownR w0.heap.size) (w0.heap.size + 1) 72 [] (.slice none 0 0) w0.heap.size [] ∧ Below w0.heap.size w0 W := by
  have hbb : Below w0.heap.size w0 W := by rw [← hW]; exact ((Below.refl _ _).alloc (Nat.le_refl _) _).alloc (by simp) _
  have h1 := World.ownsMap_made w0 Tryz.prog 9 (plainElem (H := Unit) Tryz.prog 3)
  have hm2 := h1.alloc (.cells #[.slice none 0 0, .map (some w0.heap.size)] 72)
  rw [hW] at hm2
  have hbx : W.heap[w0.heap.size + 1]? = some (.cells #[.slice none 0 0, .map (some w0.heap.size)] 72 (0, 0)) := by
    have := heap_alloc_new (w0.alloc (.map #[] 0)) (.cells #[.slice none 0 0, .map (some w0.heap.size)] 72)
    rw [hW] at this
    rw [← this]
    simp
  have o2 : ownR w0.heap.size w0.heap.size = 3 := by unfold ownR; rw [if_neg (by omega), if_pos rfl]
  have o4 : ownR w0.heap.size (w0.heap.size + 1) = 1 := by unfold ownR; rw [if_neg (by omega), if_neg (by omega), if_pos rfl]
  exact ⟨⟨fun k hk => if_pos hk, hbx, o4, o2, hm2, ⟨[], World.ownsRow_nil _ _ _ _, (fun k hk => by cases hk), fun i s hi => by simp at hi⟩, List.Pairwise.nil, by simp⟩, hbb⟩
set_option maxHeartbeats 4000000 in
set_option maxRecDepth 100000 in
theorem right9 (w : World) (sv : Value) (init : Nat) (ss : List State) (hrs : RS w sv ss) (hok : ∀ s ∈ ss, okS s) (hlen : ss.length ≤ 1000000) : Calls Tryz.prog 9 #[.agg #[sv, .int .u64 init]] w fun e w1 => e = .returned (.bool (rightF ss init)) ∧ Below w.heap.size w w1 := by
 refine calls_of_wp Tryz.func9 rfl ?_
 refine Fact.en 72 fun fr hf hT => ?_
 have s0 := hT 0 _ rfl
 clear hT
 obtain ⟨A, cc, rfl, hcc⟩ := hrs.form
 have hlen0 := hlen
 have HO := Lib.hid hok; clear hok
 refine Fact.sq fun K1 hK1 => ?_
 refine rg ?_
 iterate 2 (refine fp fun K Z => ?_; go_simp; apply Z.out; clear Z K)
 refine Fact.z hf fun fr1 hf1 hT => ?_
 have hKp := hT 1
 simp (decide := true) only [Fact.G, hf.size, reduceIte] at hKp
 replace hf := hf1; clear hT hf1 s0
 have s1 := hKp; clear hKp
 obtain ⟨W0, hW0⟩ : ∃ W0, w.alloc (.cells #[.slice A ss.length cc, .int .u64 init] 33) = W0 := ⟨_, rfl⟩
 try rw [hW0]
 obtain ⟨hb0, c0, c1, -, hz0_⟩ := box2 hW0
 clear hW0
 have hz0 : w.heap.size < W0.heap.size := by rw [hz0_]; exact Nat.lt_succ_self _
 clear hz0_
 have hr0 := hrs.later hb0
 clear hrs
 refine nx (hK1 _ _ ?_)
 refine Fact.sq fun K2 hK2 => ?_
 refine Fact.sq fun K3 hK3 => ?_
 refine rg ?_
 have b8 := hf.b 8
 have b9 := hf.b 9
 refine fp fun K Z => ?_
 go_simp
 apply Z.out; clear Z K
 refine fp fun K Z => ?_
 go_simp
 go_at_call 33; refine (formed32 W0 _ init ss hr0 HO.out hlen).mono ?_; rintro e w1 ⟨rfl, hb1⟩
 try dsimp only
 apply Z.out; clear Z K
 refine fp fun K Z => ?_
 go_simp
 apply Z.out; clear Z K
 refine Fact.z hf fun fr1 hf1 hT => ?_
 have hKp : _ ∧ _ := ⟨hT 1, hT 10⟩
 simp (decide := true) only [Fact.G, hf.size, reduceIte, s1] at hKp
 replace hf := hf1; clear hT hf1 s1 b8 b9
 obtain ⟨s1, s10⟩ := hKp
 have hr1 := hr0.later hb1
 replace c0 := cL hb1 c0; replace c1 := cL hb1 c1
 have hbw := hb0.trans (hb1.mono hb0.size)
 have hzw : w.heap.size < w1.heap.size := by have := hb1.size; omega
 clear hr0 hb1
 refine nx (hK3 _ _ ?_)
 rcases hfm : formedF ss with _ | _
 · (
 have HFM := Lib.hid hfm; clear hfm
 have q10 : fr1.tmps[10]? = some (.bool true) := by rw [s10, HFM.out]; rfl
 clear s10
 have s10 := q10; clear q10
 refine Fact.cond_t s10 ?_
 refine Fact.sq fun K4 hK4 => ?_
 refine rg ?_
 refine fp fun K Z => ?_
 go_simp
 apply Z.out; clear Z K
 refine Fact.z hf fun fr1 hf1 hT => ?_
 have hKp := hT 2
 simp (decide := true) only [Fact.G, hf.size, reduceIte] at hKp
 replace hf := hf1; clear hT hf1 s1 s10
 have s2 := hKp; clear hKp
 refine nx (hK4 _ _ ?_)
 refine wp_ret ?_
 refine Fact.then_ret ?_
 exact Fact.ret1 rfl hf s2 ⟨by rw [rightF, HFM.out]; rfl, hbw⟩)
 · (
 have hkk := formed_okK hfm HO.out
 have h0 := formed_pos hfm
 have hA := formed_ahead hfm
 have HFM := Lib.hid hfm; clear hfm
 have q10 : fr1.tmps[10]? = some (.bool false) := by rw [s10, HFM.out]; rfl
 clear s10
 have s10 := q10; clear q10
 refine Fact.cond_f s10 ?_
 obtain ⟨root, hroot⟩ : ∃ root, ss[ss.length - 1]? = some root := ⟨_, List.getElem?_eq_getElem (by omega)⟩
 have hn1 : ((ss.length : Int) - 1) = ((ss.length - 1 : Nat) : Int) := by omega
 obtain ⟨b, off, av, rfl, hat⟩ := hr1.at_ hroot
 have d0 := hat.c0; have d1 := hat.c1; have d2 := hat.c2
 obtain ⟨Ar, cr, rfl, _⟩ := hat.arcs.form
 have HN1 := Lib.hid hn1; have HR := Lib.hid hroot; have HKK := Lib.hid hkk; clear hn1 hroot hkk hat
 obtain ⟨RE, hRE⟩ : ∃ x, (!root.final && decide (root.arcs.length = 0)) = x := ⟨_, rfl⟩
 have HRE := Lib.hid hRE; clear hRE
 have hrf : rightF ss init = if RE then decide (ss.length = 1) && decide (init = 0) else orderedF ss && allGood ss 0 ss := by rw [rightF, HFM.out, getLast_of HR.out, ← HRE.out]; rfl
 have HRF := Lib.hid hrf; clear hrf
 refine wp_skip ?_
 refine nx (hK2 _ _ ?_)
 refine Fact.sq fun K5 hK5 => ?_
 refine rg ?_
 have b11 := hf.b 11
 have b12 := hf.b 12
 have b13 := hf.b 13
 have b14 := hf.b 14
 have b15 := hf.b 15
 have b16 := hf.b 16
 have b17 := hf.b 17
 have b18 := hf.b 18
 have b3 := hf.b 3
 iterate 5 (refine fp fun K Z => ?_; go_simp; apply Z.out; clear Z K)
 refine fp fun K Z => ?_
 go_simp
 try simp (disch := omega) only [Fact.W]
 rw [HN1.out]
 apply Z.out; clear Z K
 refine fp fun K Z => ?_
 go_simp
 try rw [if_pos (by omega)]
 apply Z.out; clear Z K
 iterate 3 (refine fp fun K Z => ?_; go_simp; apply Z.out; clear Z K)
 refine Fact.z hf fun fr1 hf1 hT => ?_
 have hKp : _ ∧ _ := ⟨hT 1, hT 3⟩
 simp (decide := true) only [Fact.G, hf.size, reduceIte, s1] at hKp
 replace hf := hf1; clear hT hf1 s1 s10 b11 b12 b13 b14 b15 b16 b17 b18 b3
 obtain ⟨s1, s3⟩ := hKp
 obtain ⟨W2, hW2⟩ : ∃ W0, w1.alloc (.cells #[.slice Ar root.arcs.length cr, .bool root.final, .int .u64 root.out] 58) = W0 := ⟨_, rfl⟩
 try rw [hW2]
 obtain ⟨hb2, x0, x1, -, -, -⟩ := box3 hW2
 clear hW2
 clear d0 d1 d2
 have hr2 := hr1.later hb2
 replace c0 := cL hb2 c0; replace c1 := cL hb2 c1
 have hbw2 := hbw.trans (hb2.mono (by have := hb0.size; omega))
 have hzw2 : w.heap.size < W2.heap.size := by have := hb2.size; omega
 clear hr1 hb2 hbw
 refine nx (hK5 _ _ ?_)
 refine Fact.seq_meet (fun fr wq => Fact.Fr 72 fr ∧ fr.tmps[1]? = some (.pointer (some ⟨w.heap.size, 0, none⟩)) ∧ wq = W2 ∧ RE = false) ?_ ?_
 · (
 rcases hfin : root.final with _ | _
 · (
 have HFI := Lib.hid hfin; clear hfin
 have q1 := HFI.out
 by_cases hemp : root.arcs.length = 0
 · (
 have HEM := Lib.hid hemp; clear hemp
 have q2 : ((root.arcs.length : Int) == 0) = true := by have h9 := HEM.out; rw [beq_iff_eq]; omega
 have hrev : RE = true := by rw [← HRE.out, HFI.out, decide_eq_true HEM.out]; rfl
 have HREV := Lib.hid hrev; clear hrev
 refine Fact.sq fun K6 hK6 => ?_
 refine rg ?_
 have b19 := hf.b 19
 have b20 := hf.b 20
 have b21 := hf.b 21
 have b22 := hf.b 22
 have b23 := hf.b 23
 have b24 := hf.b 24
 have b25 := hf.b 25
 have b26 := hf.b 26
 iterate 4 (refine fp fun K Z => ?_; go_simp; apply Z.out; clear Z K)
 refine og 3 22 true ?_ fun K Z => ?_
 · (
 simp (decide := true) only [Fact.G, reduceIte, hf.size, q1, q2])
 go_simp
 apply Z.out; clear Z K
 refine og 3 22 true ?_ fun K Z => ?_
 · (
 simp (decide := true) only [Fact.G, reduceIte, hf.size, q1, q2])
 go_simp
 apply Z.out; clear Z K
 refine og 3 22 true ?_ fun K Z => ?_
 · (
 simp (decide := true) only [Fact.G, reduceIte, hf.size, q1, q2])
 go_simp
 apply Z.out; clear Z K
 refine og 3 22 true ?_ fun K Z => ?_
 · (
 simp (decide := true) only [Fact.G, reduceIte, hf.size, q1, q2])
 go_simp
 apply Z.out; clear Z K
 refine fp fun K Z => ?_
 go_simp
 apply Z.out; clear Z K
 refine Fact.z hf fun fr1 hf1 hT => ?_
 have hKp : _ ∧ _ := ⟨hT 1, hT 27⟩
 simp (decide := true) only [Fact.G, hf.size, reduceIte, s1] at hKp
 replace hf := hf1; clear hT hf1 s1 s3 b19 b20 b21 b22 b23 b24 b25 b26
 obtain ⟨s1, s27⟩ := hKp
 refine nx (hK6 _ _ ?_)
 refine Fact.cond_t s27 ?_
 have hre : rightF ss init = (decide (ss.length = 1) && decide (init = 0)) := by rw [HRF.out, HREV.out]; rfl
 have HQ := Lib.hid hre; clear hre
 by_cases h1 : ss.length = 1
 · (
 have H1 := Lib.hid h1; clear h1
 have q1 : ((ss.length : Int) == 1) = true := by have := H1.out; simp; omega
 refine Fact.sq fun K7 hK7 => ?_
 refine rg ?_
 have b28 := hf.b 28
 have b29 := hf.b 29
 have b30 := hf.b 30
 have b31 := hf.b 31
 have b32 := hf.b 32
 have b33 := hf.b 33
 have b34 := hf.b 34
 have b35 := hf.b 35
 have b36 := hf.b 36
 iterate 5 (refine fp fun K Z => ?_; go_simp; apply Z.out; clear Z K)
 refine og 4 32 true ?_ fun K Z => ?_
 · (
 simp (decide := true) only [Fact.G, reduceIte, hf.size, q1])
 go_simp
 apply Z.out; clear Z K
 refine og 4 32 true ?_ fun K Z => ?_
 · (
 simp (decide := true) only [Fact.G, reduceIte, hf.size, q1])
 go_simp
 apply Z.out; clear Z K
 refine og 4 32 true ?_ fun K Z => ?_
 · (
 simp (decide := true) only [Fact.G, reduceIte, hf.size, q1])
 go_simp
 apply Z.out; clear Z K
 iterate 2 (refine fp fun K Z => ?_; go_simp; apply Z.out; clear Z K)
 refine Fact.z hf fun fr1 hf1 hT => ?_
 have hKp := hT 2
 simp (decide := true) only [Fact.G, hf.size, reduceIte] at hKp
 replace hf := hf1; clear hT hf1 s1 s27 b28 b29 b30 b31 b32 b33 b34 b35 b36
 have s2 := hKp; clear hKp
 refine nx (hK7 _ _ ?_)
 refine wp_ret ?_
 refine Fact.then_ret ?_
 refine Fact.ret1 rfl hf s2 ⟨?_, hbw2⟩
 rw [HQ.out, decide_eq_true H1.out]
 rw [← beq_nat init 0]; rfl)
 · (
 have H1 := Lib.hid h1; clear h1
 have q1 : ((ss.length : Int) == 1) = false := by have := H1.out; simp; omega
 refine Fact.sq fun K8 hK8 => ?_
 refine rg ?_
 have b28 := hf.b 28
 have b29 := hf.b 29
 have b30 := hf.b 30
 have b31 := hf.b 31
 have b32 := hf.b 32
 have b33 := hf.b 33
 have b34 := hf.b 34
 have b35 := hf.b 35
 have b36 := hf.b 36
 iterate 5 (refine fp fun K Z => ?_; go_simp; apply Z.out; clear Z K)
 refine sk 4 32 true ?_ ?_
 · (
 simp (decide := true) only [Fact.G, reduceIte, hf.size, q1, Fact.N])
 refine sk 4 32 true ?_ ?_
 · (
 simp (decide := true) only [Fact.G, reduceIte, hf.size, q1, Fact.N])
 refine sk 4 32 true ?_ ?_
 · (
 simp (decide := true) only [Fact.G, reduceIte, hf.size, q1, Fact.N])
 iterate 2 (refine fp fun K Z => ?_; go_simp; apply Z.out; clear Z K)
 refine Fact.z hf fun fr1 hf1 hT => ?_
 have hKp := hT 2
 simp (decide := true) only [Fact.G, hf.size, reduceIte] at hKp
 replace hf := hf1; clear hT hf1 s1 s27 b28 b29 b30 b31 b32 b33 b34 b35 b36
 have s2 := hKp; clear hKp
 refine nx (hK8 _ _ ?_)
 refine wp_ret ?_
 refine Fact.then_ret ?_
 refine Fact.ret1 rfl hf s2 ⟨?_, hbw2⟩
 rw [HQ.out, decide_eq_false H1.out]
 rfl))
 · (
 have HEM := Lib.hid hemp; clear hemp
 have q2 : ((root.arcs.length : Int) == 0) = false := by have h9 := HEM.out; rw [beq_eq_false_iff_ne]; omega
 have hrev : RE = false := by rw [← HRE.out, HFI.out, decide_eq_false HEM.out]; rfl
 have HREV := Lib.hid hrev; clear hrev
 refine Fact.sq fun K9 hK9 => ?_
 refine rg ?_
 have b19 := hf.b 19
 have b20 := hf.b 20
 have b21 := hf.b 21
 have b22 := hf.b 22
 have b23 := hf.b 23
 have b24 := hf.b 24
 have b25 := hf.b 25
 have b26 := hf.b 26
 iterate 4 (refine fp fun K Z => ?_; go_simp; apply Z.out; clear Z K)
 refine og 3 22 true ?_ fun K Z => ?_
 · (
 simp (decide := true) only [Fact.G, reduceIte, hf.size, q1, q2])
 go_simp
 apply Z.out; clear Z K
 refine og 3 22 true ?_ fun K Z => ?_
 · (
 simp (decide := true) only [Fact.G, reduceIte, hf.size, q1, q2])
 go_simp
 apply Z.out; clear Z K
 refine og 3 22 true ?_ fun K Z => ?_
 · (
 simp (decide := true) only [Fact.G, reduceIte, hf.size, q1, q2])
 go_simp
 apply Z.out; clear Z K
 refine og 3 22 true ?_ fun K Z => ?_
 · (
 simp (decide := true) only [Fact.G, reduceIte, hf.size, q1, q2])
 go_simp
 apply Z.out; clear Z K
 refine fp fun K Z => ?_
 go_simp
 apply Z.out; clear Z K
 refine Fact.z hf fun fr1 hf1 hT => ?_
 have hKp : _ ∧ _ := ⟨hT 1, hT 27⟩
 simp (decide := true) only [Fact.G, hf.size, reduceIte, s1] at hKp
 replace hf := hf1; clear hT hf1 s1 s3 b19 b20 b21 b22 b23 b24 b25 b26
 obtain ⟨s1, s27⟩ := hKp
 refine nx (hK9 _ _ ?_)
 refine Fact.cond_f s27 ?_
 clear q1 q2
 refine wp_skip ?_
 refine Fact.then_normal ?_
 exact ⟨hf, s1, rfl, HREV.out⟩))
 · (
 have HFI := Lib.hid hfin; clear hfin
 have q1 := HFI.out
 have hrev : RE = false := by rw [← HRE.out, HFI.out]; rfl
 have HREV := Lib.hid hrev; clear hrev
 refine Fact.sq fun K10 hK10 => ?_
 refine rg ?_
 have b19 := hf.b 19
 have b20 := hf.b 20
 have b21 := hf.b 21
 have b22 := hf.b 22
 have b23 := hf.b 23
 have b24 := hf.b 24
 have b25 := hf.b 25
 have b26 := hf.b 26
 iterate 4 (refine fp fun K Z => ?_; go_simp; apply Z.out; clear Z K)
 refine sk 3 22 true ?_ ?_
 · (
 simp (decide := true) only [Fact.G, reduceIte, hf.size, q1, Fact.N])
 refine sk 3 22 true ?_ ?_
 · (
 simp (decide := true) only [Fact.G, reduceIte, hf.size, q1, Fact.N])
 refine sk 3 22 true ?_ ?_
 · (
 simp (decide := true) only [Fact.G, reduceIte, hf.size, q1, Fact.N])
 refine sk 3 22 true ?_ ?_
 · (
 simp (decide := true) only [Fact.G, reduceIte, hf.size, q1, Fact.N])
 refine fp fun K Z => ?_
 go_simp
 apply Z.out; clear Z K
 refine Fact.z hf fun fr1 hf1 hT => ?_
 have hKp : _ ∧ _ := ⟨hT 1, hT 27⟩
 simp (decide := true) only [Fact.G, hf.size, reduceIte, s1] at hKp
 replace hf := hf1; clear hT hf1 s1 s3 b19 b20 b21 b22 b23 b24 b25 b26
 obtain ⟨s1, s27⟩ := hKp
 refine nx (hK10 _ _ ?_)
 refine Fact.cond_f s27 ?_
 clear q1
 refine wp_skip ?_
 refine Fact.then_normal ?_
 exact ⟨hf, s1, rfl, HREV.out⟩))
 · (
 clear hf s1 s3
 rintro fr wq ⟨hf, s1, hw, hrev⟩
 subst wq
 have HREV := Lib.hid hrev; clear hrev
 have hre : rightF ss init = (orderedF ss && allGood ss 0 ss) := by rw [HRF.out, HREV.out]; rfl
 have HQ := Lib.hid hre; clear hre
 refine Fact.sq fun K11 hK11 => ?_
 refine Fact.sq fun K12 hK12 => ?_
 refine rg ?_
 have b37 := hf.b 37
 have b38 := hf.b 38
 refine fp fun K Z => ?_
 go_simp
 apply Z.out; clear Z K
 refine fp fun K Z => ?_
 go_simp
 go_at_call 34; refine (ordered33 W2 _ init ss hr2 HO.out hlen h0 hA).mono ?_; rintro e w3 ⟨rfl, hb3⟩
 try dsimp only
 apply Z.out; clear Z K
 refine fp fun K Z => ?_
 go_simp
 apply Z.out; clear Z K
 refine Fact.z hf fun fr1 hf1 hT => ?_
 have hKp : _ ∧ _ := ⟨hT 1, hT 39⟩
 simp (decide := true) only [Fact.G, hf.size, reduceIte, s1] at hKp
 replace hf := hf1; clear hT hf1 s1 b37 b38
 obtain ⟨s1, s39⟩ := hKp
 have hr3 := hr2.later hb3
 replace c0 := cL hb3 c0
 have hbw3 := hbw2.trans (hb3.mono (by omega))
 have hzw3 : w.heap.size < w3.heap.size := by have := hb3.size; omega
 clear hr2 hb3 hbw2 c1 x0 x1
 refine nx (hK12 _ _ ?_)
 rcases hof : orderedF ss with _ | _
 · (
 have HOF := Lib.hid hof; clear hof
 have q39 : fr1.tmps[39]? = some (.bool true) := by rw [s39, HOF.out]; rfl
 clear s39
 have s39 := q39; clear q39
 refine Fact.cond_t s39 ?_
 refine Fact.sq fun K13 hK13 => ?_
 refine rg ?_
 refine fp fun K Z => ?_
 go_simp
 apply Z.out; clear Z K
 refine Fact.z hf fun fr1 hf1 hT => ?_
 have hKp := hT 2
 simp (decide := true) only [Fact.G, hf.size, reduceIte] at hKp
 replace hf := hf1; clear hT hf1 s1 s39
 have s2 := hKp; clear hKp
 refine nx (hK13 _ _ ?_)
 refine wp_ret ?_
 refine Fact.then_ret ?_
 exact Fact.ret1 rfl hf s2 ⟨by rw [HQ.out, HOF.out]; rfl, hbw3⟩)
 · (
 have HOF := Lib.hid hof; clear hof
 have q39 : fr1.tmps[39]? = some (.bool false) := by rw [s39, HOF.out]; rfl
 clear s39
 have s39 := q39; clear q39
 refine Fact.cond_f s39 ?_
 have hmm := @run_makeMap Tryz.prog
 refine wp_skip ?_
 refine nx (hK11 _ _ ?_)
 refine Fact.sq fun K14 hK14 => ?_
 refine rg ?_
 have b40 := hf.b 40
 have b41 := hf.b 41
 have b4 := hf.b 4
 iterate 4 (refine fp fun K Z => ?_; go_simp; apply Z.out; clear Z K)
 refine Fact.z hf fun fr1 hf1 hT => ?_
 have hKp : _ ∧ _ := ⟨hT 1, hT 4⟩
 simp (decide := true) only [Fact.G, hf.size, reduceIte, s1] at hKp
 replace hf := hf1; clear hT hf1 s1 s39 b40 b41 b4
 obtain ⟨s1, s4⟩ := hKp
 clear hmm
 obtain ⟨W4, hW4⟩ : ∃ W4, (w3.alloc (.map #[] 0)).alloc (.cells #[.slice none 0 0, .map (some w3.heap.size)] 72) = W4 := ⟨_, rfl⟩
 try rw [hW4]
 try simp only [World.size_alloc] at s4
 obtain ⟨hg4, hb4⟩ := Reg.start w3 hW4
 clear hW4
 have c4 := cL hb4 c0
 obtain ⟨own4, hown4⟩ : ∃ f, ownR w3.heap.size = f := ⟨_, rfl⟩
 rw [hown4] at hg4
 clear hown4
 refine nx (hK14 _ _ ?_)
 refine Fact.sq fun K15 hK15 => ?_
 refine Fact.sq fun K16 hK16 => ?_
 refine rg ?_
 have b42 := hf.b 42
 have b43 := hf.b 43
 iterate 4 (refine fp fun K Z => ?_; go_simp; apply Z.out; clear Z K)
 refine Fact.z hf fun fr1 hf1 hT => ?_
 have hKp : _ ∧ _ ∧ _ ∧ _ := ⟨hT 4, hT 43, hT 44, hT 45⟩
 simp (decide := true) only [Fact.G, hf.size, reduceIte, s4] at hKp
 replace hf := hf1; clear hT hf1 s1 s4 b42 b43
 obtain ⟨s4, s43, s44, s45⟩ := hKp
 refine nx (hK16 _ _ ?_)
 refine wp_block ?_
 clear c4
 refine wp_loop_ghost (fun gk fr wr => ∃ (i : Nat) (ownr : Nat → Nat) (svr : Value), gk = ss.length - i ∧ i ≤ ss.length ∧ Fact.Fr 72 fr ∧ fr.tmps[4]? = some (.pointer (some ⟨w3.heap.size + 1, 0, none⟩)) ∧ fr.tmps[43]? = some (.slice (some ⟨b, off, none⟩) ss.length cc) ∧ fr.tmps[44]? = some (.int .i64 ss.length) ∧ fr.tmps[45]? = some (.int .i64 i) ∧ Reg wr w3.heap.size ownr (w3.heap.size + 1) 72 [] svr w3.heap.size (ss.take i) ∧ allGood ss 0 ss = allGood ss i (ss.drop i) ∧ Below w3.heap.size w3 wr) (ss.length) ?_ ?_
 · (
 exact ⟨0, own4, _, rfl, Nat.zero_le _, hf, s4, s43, s44, s45, hg4, rfl, hb4⟩)
 · (
 clear hf s4 s43 s44 s45
 rintro gk fr wr ⟨i, ownr, svr, hk, hi, hf, s4, s43, s44, s45, hgr, hag, hb⟩
 have HK := Lib.hid hk; have HAG := Lib.hid hag; clear hk hag hg4 hb4
 refine Fact.sq fun K17 hK17 => ?_
 refine rg ?_
 refine fp fun K Z => ?_
 go_simp
 apply Z.out; clear Z K
 refine Fact.z hf fun fr1 hf1 hT => ?_
 have hKp : _ ∧ _ ∧ _ ∧ _ ∧ _ := ⟨hT 4, hT 43, hT 44, hT 45, hT 46⟩
 simp (decide := true) only [Fact.G, hf.size, reduceIte, s4, s43, s44, s45] at hKp
 replace hf := hf1; clear hT hf1 s4 s43 s44 s45
 obtain ⟨s4, s43, s44, s45, s46⟩ := hKp
 refine nx (hK17 _ _ ?_)
 refine Fact.sq fun K18 hK18 => ?_
 refine Fact.cond_s s46 (fun hq => ?_) (fun hq => ?_)
 · (
 have hlt : i < ss.length := by have h9 := of_decide_eq_true hq; omega
 have HQ0 := Lib.hid hq; clear hq
 obtain ⟨s, his⟩ : ∃ s, ss[i]? = some s := ⟨_, List.getElem?_eq_getElem hlt⟩
 obtain ⟨b5, off5, av5, he5, hat⟩ := hr3.at_ his
 injection he5 with he5
 injection he5 with he5 he6
 subst he5; subst he6
 have hsat := hat.later hb
 have d0 := hsat.c0; have d1 := hsat.c1; have d2 := hsat.c2
 obtain ⟨A5, c5, rfl, _⟩ := hat.arcs.form
 have hks := HKK.out s (List.mem_of_getElem? his)
 have hsl := hks.few
 have hgs := allGood_step his
 have HS := Lib.hid his; have HGS := Lib.hid hgs; clear his hgs
 have hgb := hgr.base_le
 have hra : RA wr (fun k => ownr k = 4) (.slice A5 s.arcs.length c5) s.arcs := (hat.arcs.more (fun k hk _ => hgr.lo k hk)).later hb
 have hras := hat.arcs.later hb
 clear hat hsat
 obtain ⟨own0, hown0⟩ : ∃ f, (fun k => if k < wr.heap.size then ownr k else 0) = f := ⟨_, rfl⟩
 have h0lt : ∀ k, k < wr.heap.size → own0 k = ownr k := fun k hk => by rw [← hown0]; exact if_pos hk
 have hg0 := hgr.told (own' := own0) (fun k hk => by rw [h0lt k (by omega)]; exact hgr.lo k hk) (fun k hk _ _ => h0lt k hk)
 replace hra : RA wr (fun k => own0 k = 4) (.slice A5 s.arcs.length c5) s.arcs := hra.more (fun k hk h4 => by rw [h0lt k hk]; exact h4)
 clear hgr h0lt hown0
 refine wp_skip ?_
 refine nx (hK18 _ _ ?_)
 refine Fact.sq fun K19 hK19 => ?_
 refine wp_block ?_
 refine Fact.sq fun K20 hK20 => ?_
 refine rg ?_
 have b47 := hf.b 47
 have b48 := hf.b 48
 have b49 := hf.b 49
 have b6 := hf.b 6
 refine fp fun K Z => ?_
 go_simp
 apply Z.out; clear Z K
 refine fp fun K Z => ?_
 go_simp
 try rw [if_pos (by omega)]
 apply Z.out; clear Z K
 iterate 4 (refine fp fun K Z => ?_; go_simp; apply Z.out; clear Z K)
 refine Fact.z hf fun fr1 hf1 hT => ?_
 have hKp : _ ∧ _ ∧ _ ∧ _ ∧ _ ∧ _ := ⟨hT 4, hT 5, hT 6, hT 43, hT 44, hT 45⟩
 simp (decide := true) only [Fact.G, hf.size, reduceIte, s4, s43, s44, s45] at hKp
 replace hf := hf1; clear hT hf1 s4 s43 s44 s45 s46 b47 b48 b49 b6
 obtain ⟨s4, s5, s6, s43, s44, s45⟩ := hKp
 obtain ⟨W5, hW5⟩ : ∃ W0, wr.alloc (.cells #[.slice A5 s.arcs.length c5, .bool s.final, .int .u64 s.out] 58) = W0 := ⟨_, rfl⟩
 try rw [hW5]
 obtain ⟨hb5, x0, x1, x2, hh5, hz5_⟩ := box3 hW5
 clear hW5
 have hz5 : wr.heap.size < W5.heap.size := by rw [hz5_]; exact Nat.lt_succ_self _
 clear hz5_
 clear d0 d1 d2
 refine nx (hK20 _ _ ?_)
 refine Fact.sq fun K21 hK21 => ?_
 refine rg ?_
 have b50 := hf.b 50
 have b51 := hf.b 51
 have b7 := hf.b 7
 iterate 4 (refine fp fun K Z => ?_; go_simp; apply Z.out; clear Z K)
 refine Fact.z hf fun fr1 hf1 hT => ?_
 have hKp : _ ∧ _ ∧ _ ∧ _ ∧ _ ∧ _ ∧ _ := ⟨hT 4, hT 5, hT 6, hT 7, hT 43, hT 44, hT 45⟩
 simp (decide := true) only [Fact.G, hf.size, reduceIte, s4, s5, s6, s43, s44, s45] at hKp
 replace hf := hf1; clear hT hf1 s4 s5 s6 s43 s44 s45 b50 b51 b7
 obtain ⟨s4, s5, s6, s7, s43, s44, s45⟩ := hKp
 obtain ⟨W6, hW6⟩ : ∃ W0, W5.alloc (.cells #[.slice A5 s.arcs.length c5, .bool s.final, .int .u64 s.out, .int .u8 0] 79) = W0 := ⟨_, rfl⟩
 try rw [hW6]
 obtain ⟨hb6, y0, y1, y2, -, -, hz6_⟩ := box4 hW6
 clear hW6
 have hz6 : W5.heap.size < W6.heap.size := by rw [hz6_]; exact Nat.lt_succ_self _
 clear hz6_
 replace x0 := cL hb6 x0; replace x1 := cL hb6 x1; replace x2 := cL hb6 x2
 have hb56 := hb5.trans (hb6.mono hb5.size)
 have hgz := hg0.later hb56
 have hraz := hra.later hb56
 have hrasz := hras.later hb56
 clear hb6 hg0 hra hras
 refine nx (hK21 _ _ ?_)
 rcases hfin : s.final with _ | _
 · (
 by_cases hemp : s.arcs.length = 0
 · (
 have HFI := Lib.hid hfin; clear hfin
 have q1 := HFI.out
 have HEM := Lib.hid hemp; clear hemp
 have q2 : ((s.arcs.length : Int) == 0) = true := by have h9 := HEM.out; rw [beq_iff_eq]; omega
 refine Fact.sq fun K22 hK22 => ?_
 refine rg ?_
 have b52 := hf.b 52
 have b53 := hf.b 53
 have b54 := hf.b 54
 have b55 := hf.b 55
 have b56 := hf.b 56
 have b57 := hf.b 57
 have b58 := hf.b 58
 have b59 := hf.b 59
 have b60 := hf.b 60
 have b61 := hf.b 61
 have b62 := hf.b 62
 have b63 := hf.b 63
 have b64 := hf.b 64
 have b65 := hf.b 65
 have b66 := hf.b 66
 have b67 := hf.b 67
 have b68 := hf.b 68
 have b69 := hf.b 69
 iterate 4 (refine fp fun K Z => ?_; go_simp; apply Z.out; clear Z K)
 refine og 3 55 true ?_ fun K Z => ?_
 · (
 simp (decide := true) only [Fact.G, reduceIte, hf.size, q1, q2])
 go_simp
 apply Z.out; clear Z K
 refine og 3 55 true ?_ fun K Z => ?_
 · (
 simp (decide := true) only [Fact.G, reduceIte, hf.size, q1, q2])
 go_simp
 apply Z.out; clear Z K
 refine og 3 55 true ?_ fun K Z => ?_
 · (
 simp (decide := true) only [Fact.G, reduceIte, hf.size, q1, q2])
 go_simp
 apply Z.out; clear Z K
 refine og 3 55 true ?_ fun K Z => ?_
 · (
 simp (decide := true) only [Fact.G, reduceIte, hf.size, q1, q2])
 go_simp
 apply Z.out; clear Z K
 iterate 2 (refine fp fun K Z => ?_; go_simp; apply Z.out; clear Z K)
 refine sk 9 61 false ?_ ?_
 · (
 simp (decide := true) only [Fact.G, reduceIte, hf.size, q1, q2, Fact.N])
 refine sk 9 61 false ?_ ?_
 · (
 simp (decide := true) only [Fact.G, reduceIte, hf.size, q1, q2, Fact.N])
 iterate 2 (refine fp fun K Z => ?_; go_simp; apply Z.out; clear Z K)
 refine sk 13 65 false ?_ ?_
 · (
 simp (decide := true) only [Fact.G, reduceIte, hf.size, q1, q2, Fact.N])
 refine sk 13 65 false ?_ ?_
 · (
 simp (decide := true) only [Fact.G, reduceIte, hf.size, q1, q2, Fact.N])
 refine sk 13 65 false ?_ ?_
 · (
 simp (decide := true) only [Fact.G, reduceIte, hf.size, q1, q2, Fact.N])
 refine sk 13 65 false ?_ ?_
 · (
 simp (decide := true) only [Fact.G, reduceIte, hf.size, q1, q2, Fact.N])
 refine fp fun K Z => ?_
 go_simp
 apply Z.out; clear Z K
 refine Fact.z hf fun fr1 hf1 hT => ?_
 have hKp : _ ∧ _ ∧ _ ∧ _ ∧ _ := ⟨hT 4, hT 43, hT 44, hT 45, hT 70⟩
 simp (decide := true) only [Fact.G, hf.size, reduceIte, s4, s43, s44, s45] at hKp
 replace hf := hf1; clear hT hf1 s4 s5 s6 s7 s43 s44 s45 b52 b53 b54 b55 b56 b57 b58 b59 b60 b61 b62 b63 b64 b65 b66 b67 b68 b69
 obtain ⟨s4, s43, s44, s45, s70⟩ := hKp
 refine nx (hK22 _ _ ?_)
 refine Fact.cond_t s70 ?_
 have hbad : goodS ss i s = false := by unfold goodS; rw [HFI.out]; rw [decide_eq_true HEM.out]; rfl
 have HBAD := Lib.hid hbad; clear hbad
 refine Fact.sq fun K23 hK23 => ?_
 refine rg ?_
 refine fp fun K Z => ?_
 go_simp
 apply Z.out; clear Z K
 refine Fact.z hf fun fr1 hf1 hT => ?_
 have hKp := hT 2
 simp (decide := true) only [Fact.G, hf.size, reduceIte] at hKp
 replace hf := hf1; clear hT hf1 s4 s43 s44 s45 s70
 have s2 := hKp; clear hKp
 refine nx (hK23 _ _ ?_)
 refine wp_ret ?_
 refine Fact.block_ret ?_
 refine Fact.then_ret ?_
 refine Fact.then_ret ?_
 refine Fact.block_ret ?_
 refine Fact.then_ret ?_
 exact Fact.ret1 rfl hf s2 ⟨by rw [HQ.out, HOF.out, HAG.out, HGS.out, HBAD.out]; rfl, hbw3.trans (Below.mono (hb.trans (hb56.mono hb.size)) (Nat.le_of_lt hzw3))⟩)
 · (
 by_cases hlz : leastOf s = 0
 · (
 by_cases hin : s ∈ ss.take i
 · (
 have HFI := Lib.hid hfin; clear hfin
 have q1 := HFI.out
 have HEM := Lib.hid hemp; clear hemp
 have q2 : ((s.arcs.length : Int) == 0) = false := by have h9 := HEM.out; rw [beq_eq_false_iff_ne]; omega
 have HLZ := Lib.hid hlz; clear hlz
 have q3 : ((leastOf s : Int) != 0) = false := by have h9 := HLZ.out; rw [h9]; rfl
 have HIN := Lib.hid hin; clear hin
 obtain ⟨j, hj1, hj2, hj3⟩ := finish_found HIN.out
 have HJ := Lib.hid hj3; clear hj1 hj3
 have hj4 : j < i := by simp at hj2; omega
 have q4 : ((j : Int) != (i : Int)) = true := by rw [bne_iff_ne]; omega
 refine Fact.sq fun K24 hK24 => ?_
 refine rg ?_
 have b52 := hf.b 52
 have b53 := hf.b 53
 have b54 := hf.b 54
 have b55 := hf.b 55
 have b56 := hf.b 56
 have b57 := hf.b 57
 have b58 := hf.b 58
 have b59 := hf.b 59
 have b60 := hf.b 60
 have b61 := hf.b 61
 have b62 := hf.b 62
 have b63 := hf.b 63
 have b64 := hf.b 64
 have b65 := hf.b 65
 have b66 := hf.b 66
 have b67 := hf.b 67
 have b68 := hf.b 68
 have b69 := hf.b 69
 iterate 4 (refine fp fun K Z => ?_; go_simp; apply Z.out; clear Z K)
 refine og 3 55 true ?_ fun K Z => ?_
 · (
 simp (decide := true) only [Fact.G, reduceIte, hf.size, q1, q2, q3])
 go_simp
 apply Z.out; clear Z K
 refine og 3 55 true ?_ fun K Z => ?_
 · (
 simp (decide := true) only [Fact.G, reduceIte, hf.size, q1, q2, q3])
 go_simp
 apply Z.out; clear Z K
 refine og 3 55 true ?_ fun K Z => ?_
 · (
 simp (decide := true) only [Fact.G, reduceIte, hf.size, q1, q2, q3])
 go_simp
 apply Z.out; clear Z K
 refine og 3 55 true ?_ fun K Z => ?_
 · (
 simp (decide := true) only [Fact.G, reduceIte, hf.size, q1, q2, q3])
 go_simp
 apply Z.out; clear Z K
 iterate 2 (refine fp fun K Z => ?_; go_simp; apply Z.out; clear Z K)
 refine og 9 61 false ?_ fun K Z => ?_
 · (
 simp (decide := true) only [Fact.G, reduceIte, hf.size, q1, q2, q3])
 go_simp
 go_at_call 35; refine (least34 W6 W5.heap.size 0 s _ _ ⟨y0, y1, y2, hrasz⟩ hks.ok).mono ?_; rintro e w7 ⟨rfl, hb7⟩
 replace x0 := cL hb7 x0; replace x1 := cL hb7 x1; replace x2 := cL hb7 x2
 have hg7 := hgz.later hb7
 have hra7 := hraz.later hb7
 have hb57 := hb56.trans (hb7.mono hb56.size)
 try dsimp only
 apply Z.out; clear Z K
 refine og 9 61 false ?_ fun K Z => ?_
 · (
 simp (decide := true) only [Fact.G, reduceIte, hf.size, q1, q2, q3])
 go_simp
 apply Z.out; clear Z K
 iterate 2 (refine fp fun K Z => ?_; go_simp; apply Z.out; clear Z K)
 refine og 13 65 false ?_ fun K Z => ?_
 · (
 simp (decide := true) only [Fact.G, reduceIte, hf.size, q1, q2, q3])
 go_simp
 apply Z.out; clear Z K
 have HH := finish31 w7 hg7 hra7 hks (by simp; omega)
 simp only [sval, HFI.out] at HH
 refine og 13 65 false ?_ fun K Z => ?_
 · (
 simp (decide := true) only [Fact.G, reduceIte, hf.size, q1, q2, q3])
 go_simp
 go_at_call 25; refine (HH).mono ?_; rintro e w8 ⟨rfl, ownF, svF, hF1, hF2, hF3, hF4⟩
 have hbz := hb.trans ((hb57.mono hb.size).trans (But.below hF4 (by have := hb.size; have := hb57.size; omega) (fun k hk => by rcases Nat.lt_or_ge k w3.heap.size with h | h; (have := hg7.lo k h; omega); exact h)))
 rw [HJ.out]
 try dsimp only
 apply Z.out; clear Z K
 refine og 13 65 false ?_ fun K Z => ?_
 · (
 simp (decide := true) only [Fact.G, reduceIte, hf.size, q1, q2, q3])
 go_simp
 apply Z.out; clear Z K
 refine og 13 65 false ?_ fun K Z => ?_
 · (
 simp (decide := true) only [Fact.G, reduceIte, hf.size, q1, q2, q3])
 go_simp
 apply Z.out; clear Z K
 refine fp fun K Z => ?_
 go_simp
 apply Z.out; clear Z K
 refine Fact.z hf fun fr1 hf1 hT => ?_
 have hKp : _ ∧ _ ∧ _ ∧ _ ∧ _ := ⟨hT 4, hT 43, hT 44, hT 45, hT 70⟩
 simp (decide := true) only [Fact.G, hf.size, reduceIte, s4, s43, s44, s45] at hKp
 replace hf := hf1; clear hT hf1 s4 s5 s6 s7 s43 s44 s45 b52 b53 b54 b55 b56 b57 b58 b59 b60 b61 b62 b63 b64 b65 b66 b67 b68 b69
 obtain ⟨s4, s43, s44, s45, s70⟩ := hKp
 refine nx (hK24 _ _ ?_)
 refine Fact.cond_t s70 ?_
 have hbad : goodS ss i s = false := by unfold goodS; rw [HFI.out]; rw [decide_eq_false (show ¬ s ∉ ss.take i from fun h => h HIN.out)]; simp
 have HBAD := Lib.hid hbad; clear hbad
 refine Fact.sq fun K25 hK25 => ?_
 refine rg ?_
 refine fp fun K Z => ?_
 go_simp
 apply Z.out; clear Z K
 refine Fact.z hf fun fr1 hf1 hT => ?_
 have hKp := hT 2
 simp (decide := true) only [Fact.G, hf.size, reduceIte] at hKp
 replace hf := hf1; clear hT hf1 s4 s43 s44 s45 s70
 have s2 := hKp; clear hKp
 refine nx (hK25 _ _ ?_)
 refine wp_ret ?_
 refine Fact.block_ret ?_
 refine Fact.then_ret ?_
 refine Fact.then_ret ?_
 refine Fact.block_ret ?_
 refine Fact.then_ret ?_
 exact Fact.ret1 rfl hf s2 ⟨by rw [HQ.out, HOF.out, HAG.out, HGS.out, HBAD.out]; rfl, hbw3.trans (Below.mono (hbz) (Nat.le_of_lt hzw3))⟩)
 · (
 have HFI := Lib.hid hfin; clear hfin
 have q1 := HFI.out
 have HEM := Lib.hid hemp; clear hemp
 have q2 : ((s.arcs.length : Int) == 0) = false := by have h9 := HEM.out; rw [beq_eq_false_iff_ne]; omega
 have HLZ := Lib.hid hlz; clear hlz
 have q3 : ((leastOf s : Int) != 0) = false := by have h9 := HLZ.out; rw [h9]; rfl
 have HIN := Lib.hid hin; clear hin
 have HJ := Lib.hid (finish_new HIN.out)
 have hti : (ss.take i).length = i := by simp; omega
 have HTI := Lib.hid hti; clear hti
 refine Fact.sq fun K26 hK26 => ?_
 refine rg ?_
 have b52 := hf.b 52
 have b53 := hf.b 53
 have b54 := hf.b 54
 have b55 := hf.b 55
 have b56 := hf.b 56
 have b57 := hf.b 57
 have b58 := hf.b 58
 have b59 := hf.b 59
 have b60 := hf.b 60
 have b61 := hf.b 61
 have b62 := hf.b 62
 have b63 := hf.b 63
 have b64 := hf.b 64
 have b65 := hf.b 65
 have b66 := hf.b 66
 have b67 := hf.b 67
 have b68 := hf.b 68
 have b69 := hf.b 69
 iterate 4 (refine fp fun K Z => ?_; go_simp; apply Z.out; clear Z K)
 refine og 3 55 true ?_ fun K Z => ?_
 · (
 simp (decide := true) only [Fact.G, reduceIte, hf.size, q1, q2, q3])
 go_simp
 apply Z.out; clear Z K
 refine og 3 55 true ?_ fun K Z => ?_
 · (
 simp (decide := true) only [Fact.G, reduceIte, hf.size, q1, q2, q3])
 go_simp
 apply Z.out; clear Z K
 refine og 3 55 true ?_ fun K Z => ?_
 · (
 simp (decide := true) only [Fact.G, reduceIte, hf.size, q1, q2, q3])
 go_simp
 apply Z.out; clear Z K
 refine og 3 55 true ?_ fun K Z => ?_
 · (
 simp (decide := true) only [Fact.G, reduceIte, hf.size, q1, q2, q3])
 go_simp
 apply Z.out; clear Z K
 iterate 2 (refine fp fun K Z => ?_; go_simp; apply Z.out; clear Z K)
 refine og 9 61 false ?_ fun K Z => ?_
 · (
 simp (decide := true) only [Fact.G, reduceIte, hf.size, q1, q2, q3])
 go_simp
 go_at_call 35; refine (least34 W6 W5.heap.size 0 s _ _ ⟨y0, y1, y2, hrasz⟩ hks.ok).mono ?_; rintro e w7 ⟨rfl, hb7⟩
 replace x0 := cL hb7 x0; replace x1 := cL hb7 x1; replace x2 := cL hb7 x2
 have hg7 := hgz.later hb7
 have hra7 := hraz.later hb7
 have hb57 := hb56.trans (hb7.mono hb56.size)
 try dsimp only
 apply Z.out; clear Z K
 refine og 9 61 false ?_ fun K Z => ?_
 · (
 simp (decide := true) only [Fact.G, reduceIte, hf.size, q1, q2, q3])
 go_simp
 apply Z.out; clear Z K
 iterate 2 (refine fp fun K Z => ?_; go_simp; apply Z.out; clear Z K)
 refine og 13 65 false ?_ fun K Z => ?_
 · (
 simp (decide := true) only [Fact.G, reduceIte, hf.size, q1, q2, q3])
 go_simp
 apply Z.out; clear Z K
 have HH := finish31 w7 hg7 hra7 hks (by simp; omega)
 simp only [sval, HFI.out] at HH
 refine og 13 65 false ?_ fun K Z => ?_
 · (
 simp (decide := true) only [Fact.G, reduceIte, hf.size, q1, q2, q3])
 go_simp
 go_at_call 25; refine (HH).mono ?_; rintro e w8 ⟨rfl, ownF, svF, hF1, hF2, hF3, hF4⟩
 have hbz := hb.trans ((hb57.mono hb.size).trans (But.below hF4 (by have := hb.size; have := hb57.size; omega) (fun k hk => by rcases Nat.lt_or_ge k w3.heap.size with h | h; (have := hg7.lo k h; omega); exact h)))
 rw [HJ.out] at hF3
 rw [HJ.out, HTI.out]
 try dsimp only
 apply Z.out; clear Z K
 refine og 13 65 false ?_ fun K Z => ?_
 · (
 simp (decide := true) only [Fact.G, reduceIte, hf.size, q1, q2, q3])
 go_simp
 apply Z.out; clear Z K
 refine og 13 65 false ?_ fun K Z => ?_
 · (
 simp (decide := true) only [Fact.G, reduceIte, hf.size, q1, q2, q3])
 go_simp
 apply Z.out; clear Z K
 refine fp fun K Z => ?_
 go_simp
 apply Z.out; clear Z K
 refine Fact.z hf fun fr1 hf1 hT => ?_
 have hKp : _ ∧ _ ∧ _ ∧ _ ∧ _ := ⟨hT 4, hT 43, hT 44, hT 45, hT 70⟩
 simp (decide := true) only [Fact.G, hf.size, reduceIte, s4, s43, s44, s45] at hKp
 replace hf := hf1; clear hT hf1 s4 s5 s6 s7 s43 s44 s45 b52 b53 b54 b55 b56 b57 b58 b59 b60 b61 b62 b63 b64 b65 b66 b67 b68 b69
 obtain ⟨s4, s43, s44, s45, s70⟩ := hKp
 refine nx (hK26 _ _ ?_)
 refine Fact.cond_f s70 ?_
 have hgood : goodS ss i s = true := by unfold goodS; rw [HFI.out, decide_eq_true HLZ.out, decide_eq_true HIN.out]; rw [decide_eq_false HEM.out]; rfl
 have HGD := Lib.hid hgood; clear hgood
 refine wp_skip ?_
 refine Fact.block_normal ?_
 refine nx (hK19 _ _ ?_)
 refine rg ?_
 have b71 := hf.b 71
 refine fp fun K Z => ?_
 go_simp
 try simp (disch := omega) only [Fact.W]
 apply Z.out; clear Z K
 refine fp fun K Z => ?_
 go_simp
 apply Z.out; clear Z K
 refine Fact.z hf fun fr1 hf1 hT => ?_
 have hKp : _ ∧ _ ∧ _ ∧ _ := ⟨hT 4, hT 43, hT 44, hT 45⟩
 simp (decide := true) only [Fact.G, hf.size, reduceIte, s4, s43, s44] at hKp
 replace hf := hf1; clear hT hf1 s4 s43 s44 s45 s70 b71
 obtain ⟨s4, s43, s44, s45⟩ := hKp
 refine Fact.then_normal ?_
 exact ⟨_, by have := HK.out; omega, i + 1, ownF, svF, rfl, by omega, hf, s4, s43, s44, by rw [s45]; rfl, by rw [List.take_add_one, HS.out]; exact hF3, by rw [HAG.out, HGS.out, HGD.out]; rfl, hbz⟩))
 · (
 have HFI := Lib.hid hfin; clear hfin
 have q1 := HFI.out
 have HEM := Lib.hid hemp; clear hemp
 have q2 : ((s.arcs.length : Int) == 0) = false := by have h9 := HEM.out; rw [beq_eq_false_iff_ne]; omega
 have HLZ := Lib.hid hlz; clear hlz
 have q3 : ((leastOf s : Int) != 0) = true := by have h9 := HLZ.out; rw [bne_iff_ne]; omega
 refine Fact.sq fun K27 hK27 => ?_
 refine rg ?_
 have b52 := hf.b 52
 have b53 := hf.b 53
 have b54 := hf.b 54
 have b55 := hf.b 55
 have b56 := hf.b 56
 have b57 := hf.b 57
 have b58 := hf.b 58
 have b59 := hf.b 59
 have b60 := hf.b 60
 have b61 := hf.b 61
 have b62 := hf.b 62
 have b63 := hf.b 63
 have b64 := hf.b 64
 have b65 := hf.b 65
 have b66 := hf.b 66
 have b67 := hf.b 67
 have b68 := hf.b 68
 have b69 := hf.b 69
 iterate 4 (refine fp fun K Z => ?_; go_simp; apply Z.out; clear Z K)
 refine og 3 55 true ?_ fun K Z => ?_
 · (
 simp (decide := true) only [Fact.G, reduceIte, hf.size, q1, q2, q3])
 go_simp
 apply Z.out; clear Z K
 refine og 3 55 true ?_ fun K Z => ?_
 · (
 simp (decide := true) only [Fact.G, reduceIte, hf.size, q1, q2, q3])
 go_simp
 apply Z.out; clear Z K
 refine og 3 55 true ?_ fun K Z => ?_
 · (
 simp (decide := true) only [Fact.G, reduceIte, hf.size, q1, q2, q3])
 go_simp
 apply Z.out; clear Z K
 refine og 3 55 true ?_ fun K Z => ?_
 · (
 simp (decide := true) only [Fact.G, reduceIte, hf.size, q1, q2, q3])
 go_simp
 apply Z.out; clear Z K
 iterate 2 (refine fp fun K Z => ?_; go_simp; apply Z.out; clear Z K)
 refine og 9 61 false ?_ fun K Z => ?_
 · (
 simp (decide := true) only [Fact.G, reduceIte, hf.size, q1, q2, q3])
 go_simp
 go_at_call 35; refine (least34 W6 W5.heap.size 0 s _ _ ⟨y0, y1, y2, hrasz⟩ hks.ok).mono ?_; rintro e w7 ⟨rfl, hb7⟩
 replace x0 := cL hb7 x0; replace x1 := cL hb7 x1; replace x2 := cL hb7 x2
 have hg7 := hgz.later hb7
 have hra7 := hraz.later hb7
 have hb57 := hb56.trans (hb7.mono hb56.size)
 try dsimp only
 apply Z.out; clear Z K
 refine og 9 61 false ?_ fun K Z => ?_
 · (
 simp (decide := true) only [Fact.G, reduceIte, hf.size, q1, q2, q3])
 go_simp
 apply Z.out; clear Z K
 iterate 2 (refine fp fun K Z => ?_; go_simp; apply Z.out; clear Z K)
 refine sk 13 65 false ?_ ?_
 · (
 simp (decide := true) only [Fact.G, reduceIte, hf.size, q1, q2, q3, Fact.N])
 refine sk 13 65 false ?_ ?_
 · (
 simp (decide := true) only [Fact.G, reduceIte, hf.size, q1, q2, q3, Fact.N])
 refine sk 13 65 false ?_ ?_
 · (
 simp (decide := true) only [Fact.G, reduceIte, hf.size, q1, q2, q3, Fact.N])
 refine sk 13 65 false ?_ ?_
 · (
 simp (decide := true) only [Fact.G, reduceIte, hf.size, q1, q2, q3, Fact.N])
 refine fp fun K Z => ?_
 go_simp
 apply Z.out; clear Z K
 refine Fact.z hf fun fr1 hf1 hT => ?_
 have hKp : _ ∧ _ ∧ _ ∧ _ ∧ _ := ⟨hT 4, hT 43, hT 44, hT 45, hT 70⟩
 simp (decide := true) only [Fact.G, hf.size, reduceIte, s4, s43, s44, s45] at hKp
 replace hf := hf1; clear hT hf1 s4 s5 s6 s7 s43 s44 s45 b52 b53 b54 b55 b56 b57 b58 b59 b60 b61 b62 b63 b64 b65 b66 b67 b68 b69
 obtain ⟨s4, s43, s44, s45, s70⟩ := hKp
 refine nx (hK27 _ _ ?_)
 refine Fact.cond_t s70 ?_
 have hbad : goodS ss i s = false := by unfold goodS; rw [HFI.out]; rw [decide_eq_false HLZ.out]; simp
 have HBAD := Lib.hid hbad; clear hbad
 refine Fact.sq fun K28 hK28 => ?_
 refine rg ?_
 refine fp fun K Z => ?_
 go_simp
 apply Z.out; clear Z K
 refine Fact.z hf fun fr1 hf1 hT => ?_
 have hKp := hT 2
 simp (decide := true) only [Fact.G, hf.size, reduceIte] at hKp
 replace hf := hf1; clear hT hf1 s4 s43 s44 s45 s70
 have s2 := hKp; clear hKp
 refine nx (hK28 _ _ ?_)
 refine wp_ret ?_
 refine Fact.block_ret ?_
 refine Fact.then_ret ?_
 refine Fact.then_ret ?_
 refine Fact.block_ret ?_
 refine Fact.then_ret ?_
 exact Fact.ret1 rfl hf s2 ⟨by rw [HQ.out, HOF.out, HAG.out, HGS.out, HBAD.out]; rfl, hbw3.trans (Below.mono (hb.trans (hb57.mono hb.size)) (Nat.le_of_lt hzw3))⟩)))
 · (
 by_cases hlz : leastOf s = 0
 · (
 by_cases hin : s ∈ ss.take i
 · (
 have HFI := Lib.hid hfin; clear hfin
 have q1 := HFI.out
 have HLZ := Lib.hid hlz; clear hlz
 have q3 : ((leastOf s : Int) != 0) = false := by have h9 := HLZ.out; rw [h9]; rfl
 have HIN := Lib.hid hin; clear hin
 obtain ⟨j, hj1, hj2, hj3⟩ := finish_found HIN.out
 have HJ := Lib.hid hj3; clear hj1 hj3
 have hj4 : j < i := by simp at hj2; omega
 have q4 : ((j : Int) != (i : Int)) = true := by rw [bne_iff_ne]; omega
 refine Fact.sq fun K29 hK29 => ?_
 refine rg ?_
 have b52 := hf.b 52
 have b53 := hf.b 53
 have b54 := hf.b 54
 have b55 := hf.b 55
 have b56 := hf.b 56
 have b57 := hf.b 57
 have b58 := hf.b 58
 have b59 := hf.b 59
 have b60 := hf.b 60
 have b61 := hf.b 61
 have b62 := hf.b 62
 have b63 := hf.b 63
 have b64 := hf.b 64
 have b65 := hf.b 65
 have b66 := hf.b 66
 have b67 := hf.b 67
 have b68 := hf.b 68
 have b69 := hf.b 69
 iterate 4 (refine fp fun K Z => ?_; go_simp; apply Z.out; clear Z K)
 refine sk 3 55 true ?_ ?_
 · (
 simp (decide := true) only [Fact.G, reduceIte, hf.size, q1, q3, Fact.N])
 refine sk 3 55 true ?_ ?_
 · (
 simp (decide := true) only [Fact.G, reduceIte, hf.size, q1, q3, Fact.N])
 refine sk 3 55 true ?_ ?_
 · (
 simp (decide := true) only [Fact.G, reduceIte, hf.size, q1, q3, Fact.N])
 refine sk 3 55 true ?_ ?_
 · (
 simp (decide := true) only [Fact.G, reduceIte, hf.size, q1, q3, Fact.N])
 iterate 2 (refine fp fun K Z => ?_; go_simp; apply Z.out; clear Z K)
 refine og 9 61 false ?_ fun K Z => ?_
 · (
 simp (decide := true) only [Fact.G, reduceIte, hf.size, q1, q3])
 go_simp
 go_at_call 35; refine (least34 W6 W5.heap.size 0 s _ _ ⟨y0, y1, y2, hrasz⟩ hks.ok).mono ?_; rintro e w7 ⟨rfl, hb7⟩
 replace x0 := cL hb7 x0; replace x1 := cL hb7 x1; replace x2 := cL hb7 x2
 have hg7 := hgz.later hb7
 have hra7 := hraz.later hb7
 have hb57 := hb56.trans (hb7.mono hb56.size)
 try dsimp only
 apply Z.out; clear Z K
 refine og 9 61 false ?_ fun K Z => ?_
 · (
 simp (decide := true) only [Fact.G, reduceIte, hf.size, q1, q3])
 go_simp
 apply Z.out; clear Z K
 iterate 2 (refine fp fun K Z => ?_; go_simp; apply Z.out; clear Z K)
 refine og 13 65 false ?_ fun K Z => ?_
 · (
 simp (decide := true) only [Fact.G, reduceIte, hf.size, q1, q3])
 go_simp
 apply Z.out; clear Z K
 have HH := finish31 w7 hg7 hra7 hks (by simp; omega)
 simp only [sval, HFI.out] at HH
 refine og 13 65 false ?_ fun K Z => ?_
 · (
 simp (decide := true) only [Fact.G, reduceIte, hf.size, q1, q3])
 go_simp
 go_at_call 25; refine (HH).mono ?_; rintro e w8 ⟨rfl, ownF, svF, hF1, hF2, hF3, hF4⟩
 have hbz := hb.trans ((hb57.mono hb.size).trans (But.below hF4 (by have := hb.size; have := hb57.size; omega) (fun k hk => by rcases Nat.lt_or_ge k w3.heap.size with h | h; (have := hg7.lo k h; omega); exact h)))
 rw [HJ.out]
 try dsimp only
 apply Z.out; clear Z K
 refine og 13 65 false ?_ fun K Z => ?_
 · (
 simp (decide := true) only [Fact.G, reduceIte, hf.size, q1, q3])
 go_simp
 apply Z.out; clear Z K
 refine og 13 65 false ?_ fun K Z => ?_
 · (
 simp (decide := true) only [Fact.G, reduceIte, hf.size, q1, q3])
 go_simp
 apply Z.out; clear Z K
 refine fp fun K Z => ?_
 go_simp
 apply Z.out; clear Z K
 refine Fact.z hf fun fr1 hf1 hT => ?_
 have hKp : _ ∧ _ ∧ _ ∧ _ ∧ _ := ⟨hT 4, hT 43, hT 44, hT 45, hT 70⟩
 simp (decide := true) only [Fact.G, hf.size, reduceIte, s4, s43, s44, s45] at hKp
 replace hf := hf1; clear hT hf1 s4 s5 s6 s7 s43 s44 s45 b52 b53 b54 b55 b56 b57 b58 b59 b60 b61 b62 b63 b64 b65 b66 b67 b68 b69
 obtain ⟨s4, s43, s44, s45, s70⟩ := hKp
 refine nx (hK29 _ _ ?_)
 refine Fact.cond_t s70 ?_
 have hbad : goodS ss i s = false := by unfold goodS; rw [HFI.out]; rw [decide_eq_false (show ¬ s ∉ ss.take i from fun h => h HIN.out)]; simp
 have HBAD := Lib.hid hbad; clear hbad
 refine Fact.sq fun K30 hK30 => ?_
 refine rg ?_
 refine fp fun K Z => ?_
 go_simp
 apply Z.out; clear Z K
 refine Fact.z hf fun fr1 hf1 hT => ?_
 have hKp := hT 2
 simp (decide := true) only [Fact.G, hf.size, reduceIte] at hKp
 replace hf := hf1; clear hT hf1 s4 s43 s44 s45 s70
 have s2 := hKp; clear hKp
 refine nx (hK30 _ _ ?_)
 refine wp_ret ?_
 refine Fact.block_ret ?_
 refine Fact.then_ret ?_
 refine Fact.then_ret ?_
 refine Fact.block_ret ?_
 refine Fact.then_ret ?_
 exact Fact.ret1 rfl hf s2 ⟨by rw [HQ.out, HOF.out, HAG.out, HGS.out, HBAD.out]; rfl, hbw3.trans (Below.mono (hbz) (Nat.le_of_lt hzw3))⟩)
 · (
 have HFI := Lib.hid hfin; clear hfin
 have q1 := HFI.out
 have HLZ := Lib.hid hlz; clear hlz
 have q3 : ((leastOf s : Int) != 0) = false := by have h9 := HLZ.out; rw [h9]; rfl
 have HIN := Lib.hid hin; clear hin
 have HJ := Lib.hid (finish_new HIN.out)
 have hti : (ss.take i).length = i := by simp; omega
 have HTI := Lib.hid hti; clear hti
 refine Fact.sq fun K31 hK31 => ?_
 refine rg ?_
 have b52 := hf.b 52
 have b53 := hf.b 53
 have b54 := hf.b 54
 have b55 := hf.b 55
 have b56 := hf.b 56
 have b57 := hf.b 57
 have b58 := hf.b 58
 have b59 := hf.b 59
 have b60 := hf.b 60
 have b61 := hf.b 61
 have b62 := hf.b 62
 have b63 := hf.b 63
 have b64 := hf.b 64
 have b65 := hf.b 65
 have b66 := hf.b 66
 have b67 := hf.b 67
 have b68 := hf.b 68
 have b69 := hf.b 69
 iterate 4 (refine fp fun K Z => ?_; go_simp; apply Z.out; clear Z K)
 refine sk 3 55 true ?_ ?_
 · (
 simp (decide := true) only [Fact.G, reduceIte, hf.size, q1, q3, Fact.N])
 refine sk 3 55 true ?_ ?_
 · (
 simp (decide := true) only [Fact.G, reduceIte, hf.size, q1, q3, Fact.N])
 refine sk 3 55 true ?_ ?_
 · (
 simp (decide := true) only [Fact.G, reduceIte, hf.size, q1, q3, Fact.N])
 refine sk 3 55 true ?_ ?_
 · (
 simp (decide := true) only [Fact.G, reduceIte, hf.size, q1, q3, Fact.N])
 iterate 2 (refine fp fun K Z => ?_; go_simp; apply Z.out; clear Z K)
 refine og 9 61 false ?_ fun K Z => ?_
 · (
 simp (decide := true) only [Fact.G, reduceIte, hf.size, q1, q3])
 go_simp
 go_at_call 35; refine (least34 W6 W5.heap.size 0 s _ _ ⟨y0, y1, y2, hrasz⟩ hks.ok).mono ?_; rintro e w7 ⟨rfl, hb7⟩
 replace x0 := cL hb7 x0; replace x1 := cL hb7 x1; replace x2 := cL hb7 x2
 have hg7 := hgz.later hb7
 have hra7 := hraz.later hb7
 have hb57 := hb56.trans (hb7.mono hb56.size)
 try dsimp only
 apply Z.out; clear Z K
 refine og 9 61 false ?_ fun K Z => ?_
 · (
 simp (decide := true) only [Fact.G, reduceIte, hf.size, q1, q3])
 go_simp
 apply Z.out; clear Z K
 iterate 2 (refine fp fun K Z => ?_; go_simp; apply Z.out; clear Z K)
 refine og 13 65 false ?_ fun K Z => ?_
 · (
 simp (decide := true) only [Fact.G, reduceIte, hf.size, q1, q3])
 go_simp
 apply Z.out; clear Z K
 have HH := finish31 w7 hg7 hra7 hks (by simp; omega)
 simp only [sval, HFI.out] at HH
 refine og 13 65 false ?_ fun K Z => ?_
 · (
 simp (decide := true) only [Fact.G, reduceIte, hf.size, q1, q3])
 go_simp
 go_at_call 25; refine (HH).mono ?_; rintro e w8 ⟨rfl, ownF, svF, hF1, hF2, hF3, hF4⟩
 have hbz := hb.trans ((hb57.mono hb.size).trans (But.below hF4 (by have := hb.size; have := hb57.size; omega) (fun k hk => by rcases Nat.lt_or_ge k w3.heap.size with h | h; (have := hg7.lo k h; omega); exact h)))
 rw [HJ.out] at hF3
 rw [HJ.out, HTI.out]
 try dsimp only
 apply Z.out; clear Z K
 refine og 13 65 false ?_ fun K Z => ?_
 · (
 simp (decide := true) only [Fact.G, reduceIte, hf.size, q1, q3])
 go_simp
 apply Z.out; clear Z K
 refine og 13 65 false ?_ fun K Z => ?_
 · (
 simp (decide := true) only [Fact.G, reduceIte, hf.size, q1, q3])
 go_simp
 apply Z.out; clear Z K
 refine fp fun K Z => ?_
 go_simp
 apply Z.out; clear Z K
 refine Fact.z hf fun fr1 hf1 hT => ?_
 have hKp : _ ∧ _ ∧ _ ∧ _ ∧ _ := ⟨hT 4, hT 43, hT 44, hT 45, hT 70⟩
 simp (decide := true) only [Fact.G, hf.size, reduceIte, s4, s43, s44, s45] at hKp
 replace hf := hf1; clear hT hf1 s4 s5 s6 s7 s43 s44 s45 b52 b53 b54 b55 b56 b57 b58 b59 b60 b61 b62 b63 b64 b65 b66 b67 b68 b69
 obtain ⟨s4, s43, s44, s45, s70⟩ := hKp
 refine nx (hK31 _ _ ?_)
 refine Fact.cond_f s70 ?_
 have hgood : goodS ss i s = true := by unfold goodS; rw [HFI.out, decide_eq_true HLZ.out, decide_eq_true HIN.out]; rfl
 have HGD := Lib.hid hgood; clear hgood
 refine wp_skip ?_
 refine Fact.block_normal ?_
 refine nx (hK19 _ _ ?_)
 refine rg ?_
 have b71 := hf.b 71
 refine fp fun K Z => ?_
 go_simp
 try simp (disch := omega) only [Fact.W]
 apply Z.out; clear Z K
 refine fp fun K Z => ?_
 go_simp
 apply Z.out; clear Z K
 refine Fact.z hf fun fr1 hf1 hT => ?_
 have hKp : _ ∧ _ ∧ _ ∧ _ := ⟨hT 4, hT 43, hT 44, hT 45⟩
 simp (decide := true) only [Fact.G, hf.size, reduceIte, s4, s43, s44] at hKp
 replace hf := hf1; clear hT hf1 s4 s43 s44 s45 s70 b71
 obtain ⟨s4, s43, s44, s45⟩ := hKp
 refine Fact.then_normal ?_
 exact ⟨_, by have := HK.out; omega, i + 1, ownF, svF, rfl, by omega, hf, s4, s43, s44, by rw [s45]; rfl, by rw [List.take_add_one, HS.out]; exact hF3, by rw [HAG.out, HGS.out, HGD.out]; rfl, hbz⟩))
 · (
 have HFI := Lib.hid hfin; clear hfin
 have q1 := HFI.out
 have HLZ := Lib.hid hlz; clear hlz
 have q3 : ((leastOf s : Int) != 0) = true := by have h9 := HLZ.out; rw [bne_iff_ne]; omega
 refine Fact.sq fun K32 hK32 => ?_
 refine rg ?_
 have b52 := hf.b 52
 have b53 := hf.b 53
 have b54 := hf.b 54
 have b55 := hf.b 55
 have b56 := hf.b 56
 have b57 := hf.b 57
 have b58 := hf.b 58
 have b59 := hf.b 59
 have b60 := hf.b 60
 have b61 := hf.b 61
 have b62 := hf.b 62
 have b63 := hf.b 63
 have b64 := hf.b 64
 have b65 := hf.b 65
 have b66 := hf.b 66
 have b67 := hf.b 67
 have b68 := hf.b 68
 have b69 := hf.b 69
 iterate 4 (refine fp fun K Z => ?_; go_simp; apply Z.out; clear Z K)
 refine sk 3 55 true ?_ ?_
 · (
 simp (decide := true) only [Fact.G, reduceIte, hf.size, q1, q3, Fact.N])
 refine sk 3 55 true ?_ ?_
 · (
 simp (decide := true) only [Fact.G, reduceIte, hf.size, q1, q3, Fact.N])
 refine sk 3 55 true ?_ ?_
 · (
 simp (decide := true) only [Fact.G, reduceIte, hf.size, q1, q3, Fact.N])
 refine sk 3 55 true ?_ ?_
 · (
 simp (decide := true) only [Fact.G, reduceIte, hf.size, q1, q3, Fact.N])
 iterate 2 (refine fp fun K Z => ?_; go_simp; apply Z.out; clear Z K)
 refine og 9 61 false ?_ fun K Z => ?_
 · (
 simp (decide := true) only [Fact.G, reduceIte, hf.size, q1, q3])
 go_simp
 go_at_call 35; refine (least34 W6 W5.heap.size 0 s _ _ ⟨y0, y1, y2, hrasz⟩ hks.ok).mono ?_; rintro e w7 ⟨rfl, hb7⟩
 replace x0 := cL hb7 x0; replace x1 := cL hb7 x1; replace x2 := cL hb7 x2
 have hg7 := hgz.later hb7
 have hra7 := hraz.later hb7
 have hb57 := hb56.trans (hb7.mono hb56.size)
 try dsimp only
 apply Z.out; clear Z K
 refine og 9 61 false ?_ fun K Z => ?_
 · (
 simp (decide := true) only [Fact.G, reduceIte, hf.size, q1, q3])
 go_simp
 apply Z.out; clear Z K
 iterate 2 (refine fp fun K Z => ?_; go_simp; apply Z.out; clear Z K)
 refine sk 13 65 false ?_ ?_
 · (
 simp (decide := true) only [Fact.G, reduceIte, hf.size, q1, q3, Fact.N])
 refine sk 13 65 false ?_ ?_
 · (
 simp (decide := true) only [Fact.G, reduceIte, hf.size, q1, q3, Fact.N])
 refine sk 13 65 false ?_ ?_
 · (
 simp (decide := true) only [Fact.G, reduceIte, hf.size, q1, q3, Fact.N])
 refine sk 13 65 false ?_ ?_
 · (
 simp (decide := true) only [Fact.G, reduceIte, hf.size, q1, q3, Fact.N])
 refine fp fun K Z => ?_
 go_simp
 apply Z.out; clear Z K
 refine Fact.z hf fun fr1 hf1 hT => ?_
 have hKp : _ ∧ _ ∧ _ ∧ _ ∧ _ := ⟨hT 4, hT 43, hT 44, hT 45, hT 70⟩
 simp (decide := true) only [Fact.G, hf.size, reduceIte, s4, s43, s44, s45] at hKp
 replace hf := hf1; clear hT hf1 s4 s5 s6 s7 s43 s44 s45 b52 b53 b54 b55 b56 b57 b58 b59 b60 b61 b62 b63 b64 b65 b66 b67 b68 b69
 obtain ⟨s4, s43, s44, s45, s70⟩ := hKp
 refine nx (hK32 _ _ ?_)
 refine Fact.cond_t s70 ?_
 have hbad : goodS ss i s = false := by unfold goodS; rw [HFI.out]; rw [decide_eq_false HLZ.out]; simp
 have HBAD := Lib.hid hbad; clear hbad
 refine Fact.sq fun K33 hK33 => ?_
 refine rg ?_
 refine fp fun K Z => ?_
 go_simp
 apply Z.out; clear Z K
 refine Fact.z hf fun fr1 hf1 hT => ?_
 have hKp := hT 2
 simp (decide := true) only [Fact.G, hf.size, reduceIte] at hKp
 replace hf := hf1; clear hT hf1 s4 s43 s44 s45 s70
 have s2 := hKp; clear hKp
 refine nx (hK33 _ _ ?_)
 refine wp_ret ?_
 refine Fact.block_ret ?_
 refine Fact.then_ret ?_
 refine Fact.then_ret ?_
 refine Fact.block_ret ?_
 refine Fact.then_ret ?_
 exact Fact.ret1 rfl hf s2 ⟨by rw [HQ.out, HOF.out, HAG.out, HGS.out, HBAD.out]; rfl, hbw3.trans (Below.mono (hb.trans (hb57.mono hb.size)) (Nat.le_of_lt hzw3))⟩)))
 · (
 have hie : i = ss.length := by have h9 := of_decide_eq_false hq; omega
 have HIE := Lib.hid hie; clear hie hq
 refine wp_exit ?_
 refine Fact.then_exit ?_
 refine Fact.then_exit ?_
 refine Fact.block_exit ?_
 refine nx (hK15 _ _ ?_)
 refine Fact.sq fun K34 hK34 => ?_
 refine rg ?_
 refine fp fun K Z => ?_
 go_simp
 apply Z.out; clear Z K
 refine Fact.z hf fun fr1 hf1 hT => ?_
 have hKp := hT 2
 simp (decide := true) only [Fact.G, hf.size, reduceIte] at hKp
 replace hf := hf1; clear hT hf1 s4 s43 s44 s45 s46
 have s2 := hKp; clear hKp
 refine nx (hK34 _ _ ?_)
 refine wp_ret ?_
 refine Fact.ret1 rfl hf s2 ⟨?_, hbw3.trans (hb.mono (Nat.le_of_lt hzw3))⟩
 rw [HQ.out, HOF.out, HAG.out, HIE.out, List.drop_length]; rfl)))))
end Dw
end Go.Proofs.YtdkbgbdgmihlmaaGreatDoor
