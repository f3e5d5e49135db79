/- Dawg: Size, formed. -/
import Derived.Test.YtcddnmhmcieebaaGreatDoorY1
import Derived.Test.YtcddnmhmcieebaaGreatDoorY7
import Derived.Test.YtcddnmhmcieebaaGreatDoorDLawP
import Derived.Test.YtcddnmhmcieebaaGreatDoorTools
namespace Go.Proofs.YtcddnmhmcieebaaGreatDoor
set_option maxHeartbeats 4000000
set_option maxRecDepth 100000
open Go.RowKit
set_option linter.unusedSimpArgs false
set_option linter.unusedVariables false
set_option linter.unnecessarySimpa false
namespace Dw
theorem arc_cases (t i b l : Int) : t < 0 \/ (0 <= t /\ i <= t) \/ (0 <= t /\ t < i /\ b <= l) \/ (0 <= t /\ t < i /\ l < b) := by omega
theorem formed32 (w : World) (sv : Value) (init : Nat) (ss : List State) (hrs : RS w sv ss) (hok : ∀ s ∈ ss, okS s) (hlen : ss.length <= 1000000) : Calls Tryz.prog 103 #[.agg #[sv, .int .u64 init]] w fun e w1 => e = .returned (.bool (formedF ss)) /\ Below w.heap.size w w1 := by
 refine Zn1 56 Tryz.func103 fun fr hf s0 => ?_
 obtain ⟨A, cc, rfl, hcc⟩ := hrs.form
 have HO := Lib.hid hok; clear hok
 refine Ze fun _ hK1 => Zr [] hf ?_
 refine Zq1 1 hf ?_
 clear hf s0; intro fr1 hf s1
 generalize hW0 : w.alloc (.cells #[.slice A ss.length cc, .int .u64 init] 38) = W0
 obtain ⟨hb0, c0, c1, -, -⟩ := box2 hW0
 clear hW0
 have hr0 := hrs.later hb0
 clear hrs
 refine Zs hK1 fun _ hK2 => Ze fun _ hK3 => Zr [8, 9] hf ?_
 refine Zq4 1 9 10 11 hf ?_
 clear hf s1; intro fr1 hf sS
 refine Zx hK3 (wp_block (wp_loop_ghost (fun gk fr wr => ∃ (i : Nat), gk = ss.length - i /\ i <= ss.length /\ Fact.Fr 56 fr /\ fr.tmps[1]? = some (.pointer (some ⟨w.heap.size, 0, none⟩)) /\ fr.tmps[9]? = some (.slice A ss.length cc) /\ fr.tmps[10]? = some (.int .i64 ss.length) /\ fr.tmps[11]? = some (.int .i64 i) /\ formedL 0 ss = formedL i (ss.drop i) /\ Below W0.heap.size W0 wr) (ss.length) ?_ ?_))
 . (
 obtain ⟨s1, s9, s10, s11⟩ := sS
 exact ⟨0, rfl, Nat.zero_le _, hf, s1, s9, s10, s11, rfl, Below.refl _ _⟩)
 . (
 clear hf sS
 rintro gk fr wr ⟨i, hk, hi, hf, s1, s9, s10, s11, hfm, hb⟩
 have HK := Lib.hid hk; have HM := Lib.hid hfm; clear hk hfm
 refine Ze fun _ hK4 => Zr [] hf ?_
 refine Zq5 1 9 10 11 12 hf ?_
 clear hf s1 s9 s10 s11; intro fr1 hf sS
 refine Zs hK4 fun _ hK5 => Fact.cond_s sS.2.2.2.2 (fun hq => ?_) (fun hq => ?_)
 . (
 have hlt : i < ss.length := by have h9 := of_decide_eq_true hq; omega
 have HQ := Lib.hid hq; clear hq
 obtain ⟨s, his⟩ : ∃ s, ss[i]? = some s := ⟨_, gE1 hlt⟩
 obtain ⟨b, off, av, rfl, hat⟩ := (hr0.later hb).at_ his
 have d0 := hat.c0; have d1 := hat.c1; have d2 := hat.c2
 have hra := hat.arcs
 obtain ⟨A2, c2, rfl, _⟩ := hat.arcs.form
 have hos := HO.out s (gM1 his)
 have hst := formedL_step his
 have HS := Lib.hid his; have HST := Lib.hid hst; clear his hst hat
 have hal := hos.2.1
 refine wp_skip (Zs hK5 fun _ hK6 => wp_block (Ze fun _ hK7 => Zr [13, 14, 15, 4] hf ?_))
 refine Zq6 1 3 4 9 10 11 hf ?_
 clear hf sS; intro fr1 hf sS
 generalize hW5 : wr.alloc (.cells #[.slice A2 s.arcs.length c2, .bool s.final, .int .u64 s.out] 46) = W5
 obtain ⟨hb5, x0, x1, x2, -, -⟩ := box3 hW5
 clear hW5
 clear d0 d1 d2
 have hra5 := hra.later hb5
 clear hra
 have hbz0 := hb0.trans ((hb.trans (hb5.mono hb.size)).mono hb0.size)
 refine Zx hK7 (Fact.seq_meet (fun fr wq => Fact.Fr 56 fr /\ fr.tmps[1]? = some (.pointer (some ⟨w.heap.size, 0, none⟩)) /\ fr.tmps[3]? = some (.int .i64 i) /\ fr.tmps[4]? = some (.pointer (some ⟨wr.heap.size, 0, none⟩)) /\ fr.tmps[9]? = some (.slice (some ⟨b, off, none⟩) ss.length cc) /\ fr.tmps[10]? = some (.int .i64 ss.length) /\ fr.tmps[11]? = some (.int .i64 i) /\ wq = W5 /\ (s.final || decide (s.out = 0)) = true) ?_ ?_)
 . (
 rcases hfin : s.final with _ | _
 . (
 have HFI := Lib.hid hfin; clear hfin
 have q1 := HFI.out
 refine Ze fun _ hK8 => rg ?_
 have bB := hf.B7 16 17 18 19 20 21 22
 iterate 4 refine Zy ?_
 refine Zg ?_ (hv := by simp (decide := true) only [Fact.G, reduceIte, hf.size, q1, Fact.N])
 refine Zg ?_ (hv := by simp (decide := true) only [Fact.G, reduceIte, hf.size, q1, Fact.N])
 refine Zg ?_ (hv := by simp (decide := true) only [Fact.G, reduceIte, hf.size, q1, Fact.N])
 refine Zy ?_
 refine Fact.nil (Zq7 1 3 4 9 10 11 23 hf ?_)
 clear hf sS bB; intro fr1 hf sS
 refine Zx hK8 (Fact.cond_s sS.2.2.2.2.2.2 (fun hqo => ?_) (fun hqo => ?_))
 . (
 have ho0 : s.out ≠ 0 := by simpa using hqo
 have HO0 := Lib.hid ho0; clear ho0 hqo
 have hbad : formedL 0 ss = false := by rw [HM.out, HST.out, HFI.out, decide_eq_false HO0.out]; rfl
 have HBAD := Lib.hid hbad; clear hbad
 have hbz := hbz0
 refine Ze fun _ hK9 => Zr [] hf ?_
 refine Zq1 2 hf ?_
 clear hf sS; intro fr1 hf s2
 refine Zx hK9 (Zret ?_)
 exact Fact.ret1 rfl hf s2 ⟨by rw [formedF, HBAD.out]; rfl, hbz⟩)
 . (
 have ho0 : s.out = 0 := by simpa using hqo
 have HO0 := Lib.hid ho0; clear ho0 hqo
 have hfo : (s.final || decide (s.out = 0)) = true := by rw [HFI.out, decide_eq_true HO0.out]; rfl
 have HFO := Lib.hid hfo; clear hfo
 refine wp_skip (Fact.then_normal ?_)
 obtain ⟨s1, s3, s4, s9, s10, s11, s23⟩ := sS
 exact ⟨hf, s1, s3, s4, s9, s10, s11, rfl, (by have h9 := HFO.out; rw [HFI.out] at h9; exact h9)⟩))
 . (
 have HFI := Lib.hid hfin; clear hfin
 have q1 := HFI.out
 refine Ze fun _ hK10 => rg ?_
 have bB := hf.B7 16 17 18 19 20 21 22
 iterate 4 refine Zy ?_
 refine Zk ?_ (hv := by simp (decide := true) only [Fact.G, reduceIte, hf.size, Fact.N, q1, Fact.N])
 refine Zk ?_ (hv := by simp (decide := true) only [Fact.G, reduceIte, hf.size, Fact.N, q1, Fact.N])
 refine Zk ?_ (hv := by simp (decide := true) only [Fact.G, reduceIte, hf.size, Fact.N, q1, Fact.N])
 refine Zy ?_
 refine Fact.nil (Zq7 1 3 4 9 10 11 23 hf ?_)
 clear hf sS bB; intro fr1 hf sS
 refine Zx hK10 ?_
 have hfo : (s.final || decide (s.out = 0)) = true := by rw [HFI.out]; rfl
 have HFO := Lib.hid hfo; clear hfo
 refine Fact.cond_f sS.2.2.2.2.2.2 ?_
 refine wp_skip (Fact.then_normal ?_)
 obtain ⟨s1, s3, s4, s9, s10, s11, s23⟩ := sS
 exact ⟨hf, s1, s3, s4, s9, s10, s11, rfl, (by have h9 := HFO.out; rw [HFI.out] at h9; exact h9)⟩))
 . (
 clear hf sS
 rintro fr wq ⟨hf, s1, s3, s4, s9, s10, s11, hw, hfo⟩
 subst wq
 have HFO := Lib.hid hfo; clear hfo
 refine Ze fun _ hK11 => Zr [] hf ?_
 refine Zq7 1 3 4 5 9 10 11 hf ?_
 clear hf s1 s3 s4 s9 s10 s11; intro fr1 hf sS
 refine Zs hK11 fun _ hK12 => Zr [24, 25] hf ?_
 refine Zq9 1 3 5 9 10 11 25 26 27 hf ?_
 clear hf sS; intro fr1 hf sS
 refine Zx hK12 (wp_block (wp_loop_ghost (fun gk2 fr wr2 => ∃ (k : Nat) (last : Int), gk2 = s.arcs.length - k /\ k <= s.arcs.length /\ Fact.Fr 56 fr /\ fr.tmps[1]? = some (.pointer (some ⟨w.heap.size, 0, none⟩)) /\ fr.tmps[3]? = some (.int .i64 i) /\ fr.tmps[5]? = some (.int .i64 last) /\ fr.tmps[9]? = some (.slice (some ⟨b, off, none⟩) ss.length cc) /\ fr.tmps[10]? = some (.int .i64 ss.length) /\ fr.tmps[11]? = some (.int .i64 i) /\ fr.tmps[25]? = some (.slice A2 s.arcs.length c2) /\ fr.tmps[26]? = some (.int .i64 s.arcs.length) /\ fr.tmps[27]? = some (.int .i64 k) /\ okArcs i (-1) s.arcs = okArcs i last (s.arcs.drop k) /\ Below W5.heap.size W5 wr2) (s.arcs.length) ?_ ?_))
 . (
 obtain ⟨s1, s3, s5, s9, s10, s11, s25, s26, s27⟩ := sS
 exact ⟨0, -1, rfl, Nat.zero_le _, hf, s1, s3, s5, s9, s10, s11, s25, s26, s27, rfl, Below.refl _ _⟩)
 . (
 clear hf sS
 rintro gk2 fr wr2 ⟨k, last, hk2, hki, hf, s1, s3, s5, s9, s10, s11, s25, s26, s27, hoa, hb6⟩
 have HK2 := Lib.hid hk2; have HOA := Lib.hid hoa; clear hk2 hoa
 refine Ze fun _ hK13 => Zr [] hf ?_
 refine Zq10 1 3 5 9 10 11 25 26 27 28 hf ?_
 clear hf s1 s3 s5 s9 s10 s11 s25 s26 s27; intro fr1 hf sS
 refine Zs hK13 fun _ hK14 => Fact.cond_s sS.2.2.2.2.2.2.2.2.2 (fun hq2 => ?_) (fun hq2 => ?_)
 . (
 have hklt : k < s.arcs.length := by have h9 := of_decide_eq_true hq2; omega
 have HQ2 := Lib.hid hq2; clear hq2
 obtain ⟨a, hka⟩ : ∃ a, s.arcs[k]? = some a := ⟨_, gE1 hklt⟩
 obtain ⟨b3, off3, rfl, hbl, y0, y1, y2⟩ := (hra5.later hb6).at' hka
 have haa := hos.2.2 a (gM1 hka)
 have hat := okArcs_step (i := i) (last := last) hka
 have HKA := Lib.hid hka; have HAT := Lib.hid hat; clear hka hat
 have hab := haa.1
 rcases arc_cases a.to (i : Int) (a.byte : Int) last with hc | hc | hc | hc
 . (
 have q2 : decide (a.to < 0) = true := decide_eq_true hc
 have HC := Lib.hid hc; clear hc
 refine wp_skip (Zs hK14 fun _ hK15 => wp_block (Ze fun _ hK16 => Zr [29, 30, 7] hf ?_))
 refine Zq10 1 3 5 7 9 10 11 25 26 27 hf ?_
 clear hf sS; intro fr1 hf sS
 generalize hW7 : wr2.alloc (.cells #[.int .u8 a.byte, .int .u64 a.out, .int .i64 a.to] 71) = W7
 obtain ⟨hb7, z0, -, z2, -, -⟩ := box3 hW7
 clear hW7
 clear y0 y1 y2 hbl
 have hbz := hbz0.trans ((hb6.trans (hb7.mono hb6.size)).mono hbz0.size)
 refine Zs hK16 fun _ hK17 => Ze fun _ hK18 => ?_
 have qs := q2
 refine Zr [31, 32, 33, 34, 35, 36, 37, 38, 39, 40, 41, 42, 43, 44, 45] hf ?_
 refine Zq10 1 3 7 9 10 11 25 26 27 46 hf ?_
 clear hf sS qs; intro fr1 hf sS
 refine Zx hK18 (Fact.cond_t sS.2.2.2.2.2.2.2.2.2 ?_)
 have hbad : formedL 0 ss = false := by rw [HM.out, HST.out, HOA.out, HAT.out]; have := HC.out; rw [decide_eq_false (show ¬ 0 <= a.to by omega)]; simp
 have HBAD := Lib.hid hbad; clear hbad
 refine Ze fun _ hK19 => Zr [] hf ?_
 refine Zq1 2 hf ?_
 clear hf sS; intro fr1 hf s2
 refine Zx hK19 (Zret ?_)
 exact Fact.ret1 rfl hf s2 ⟨by rw [formedF, HBAD.out]; rfl, hbz⟩)
 . (
 have q2 : decide (a.to < 0) = false := decide_eq_false (by omega)
 have q3 : decide ((i : Int) <= a.to) = true := decide_eq_true hc.2
 have HC := Lib.hid hc; clear hc
 refine wp_skip (Zs hK14 fun _ hK20 => wp_block (Ze fun _ hK21 => Zr [29, 30, 7] hf ?_))
 refine Zq10 1 3 5 7 9 10 11 25 26 27 hf ?_
 clear hf sS; intro fr1 hf sS
 generalize hW7 : wr2.alloc (.cells #[.int .u8 a.byte, .int .u64 a.out, .int .i64 a.to] 71) = W7
 obtain ⟨hb7, z0, -, z2, -, -⟩ := box3 hW7
 clear hW7
 clear y0 y1 y2 hbl
 have hbz := hbz0.trans ((hb6.trans (hb7.mono hb6.size)).mono hbz0.size)
 refine Zs hK21 fun _ hK22 => Ze fun _ hK23 => ?_
 have qs := And.intro q2 q3
 refine Zr [31, 32, 33, 34, 35, 36, 37, 38, 39, 40, 41, 42, 43, 44, 45] hf ?_
 refine Zq10 1 3 7 9 10 11 25 26 27 46 hf ?_
 clear hf sS qs; intro fr1 hf sS
 refine Zx hK23 (Fact.cond_t sS.2.2.2.2.2.2.2.2.2 ?_)
 have hbad : formedL 0 ss = false := by rw [HM.out, HST.out, HOA.out, HAT.out]; have := HC.out; rw [decide_eq_false (show ¬ a.to < (i : Int) by omega)]; simp
 have HBAD := Lib.hid hbad; clear hbad
 refine Ze fun _ hK24 => Zr [] hf ?_
 refine Zq1 2 hf ?_
 clear hf sS; intro fr1 hf s2
 refine Zx hK24 (Zret ?_)
 exact Fact.ret1 rfl hf s2 ⟨by rw [formedF, HBAD.out]; rfl, hbz⟩)
 . (
 have q2 : decide (a.to < 0) = false := decide_eq_false (by omega)
 have q3 : decide ((i : Int) <= a.to) = false := decide_eq_false (by omega)
 have q4 : decide ((a.byte : Int) <= last) = true := decide_eq_true hc.2.2
 have HC := Lib.hid hc; clear hc
 refine wp_skip (Zs hK14 fun _ hK25 => wp_block (Ze fun _ hK26 => Zr [29, 30, 7] hf ?_))
 refine Zq10 1 3 5 7 9 10 11 25 26 27 hf ?_
 clear hf sS; intro fr1 hf sS
 generalize hW7 : wr2.alloc (.cells #[.int .u8 a.byte, .int .u64 a.out, .int .i64 a.to] 71) = W7
 obtain ⟨hb7, z0, -, z2, -, -⟩ := box3 hW7
 clear hW7
 clear y0 y1 y2 hbl
 have hbz := hbz0.trans ((hb6.trans (hb7.mono hb6.size)).mono hbz0.size)
 refine Zs hK26 fun _ hK27 => Ze fun _ hK28 => ?_
 have qs := And.intro q2 (And.intro q3 q4)
 refine rg ?_
 have bB := And.intro (hf.B10 31 32 33 34 35 36 37 38 39 40) (hf.B5 41 42 43 44 45)
 iterate 12 refine Zy ?_
 refine og 9 40 false ?_ fun K Z => ?_
 . (
 simp (decide := true) only [Fact.G, reduceIte, hf.size, q2, q3, q4])
 go_simp
 try simp (disch := omega) only [Fact.wrap_i64]
 apply Z.out; clear Z K
 iterate 3 refine Zy ?_
 refine Fact.nil (Zq10 1 3 7 9 10 11 25 26 27 46 hf ?_)
 clear hf sS bB qs; intro fr1 hf sS
 refine Zx hK28 (Fact.cond_t sS.2.2.2.2.2.2.2.2.2 ?_)
 have hbad : formedL 0 ss = false := by rw [HM.out, HST.out, HOA.out, HAT.out]; have := HC.out; rw [decide_eq_false (show ¬ last < (a.byte : Int) by omega)]; simp
 have HBAD := Lib.hid hbad; clear hbad
 refine Ze fun _ hK29 => Zr [] hf ?_
 refine Zq1 2 hf ?_
 clear hf sS; intro fr1 hf s2
 refine Zx hK29 (Zret ?_)
 exact Fact.ret1 rfl hf s2 ⟨by rw [formedF, HBAD.out]; rfl, hbz⟩)
 . (
 have q2 : decide (a.to < 0) = false := decide_eq_false (by omega)
 have q3 : decide ((i : Int) <= a.to) = false := decide_eq_false (by omega)
 have q4 : decide ((a.byte : Int) <= last) = false := decide_eq_false (by omega)
 have HC := Lib.hid hc; clear hc
 refine wp_skip (Zs hK14 fun _ hK30 => wp_block (Ze fun _ hK31 => Zr [29, 30, 7] hf ?_))
 refine Zq10 1 3 5 7 9 10 11 25 26 27 hf ?_
 clear hf sS; intro fr1 hf sS
 generalize hW7 : wr2.alloc (.cells #[.int .u8 a.byte, .int .u64 a.out, .int .i64 a.to] 71) = W7
 obtain ⟨hb7, z0, -, z2, -, -⟩ := box3 hW7
 clear hW7
 clear y0 y1 y2 hbl
 have hbz := hbz0.trans ((hb6.trans (hb7.mono hb6.size)).mono hbz0.size)
 refine Zs hK31 fun _ hK32 => Ze fun _ hK33 => ?_
 have qs := And.intro q2 (And.intro q3 q4)
 refine rg ?_
 have bB := And.intro (hf.B10 31 32 33 34 35 36 37 38 39 40) (hf.B5 41 42 43 44 45)
 iterate 12 refine Zy ?_
 refine og 9 40 false ?_ fun K Z => ?_
 . (
 simp (decide := true) only [Fact.G, reduceIte, hf.size, q2, q3, q4])
 go_simp
 try simp (disch := omega) only [Fact.wrap_i64]
 apply Z.out; clear Z K
 iterate 3 refine Zy ?_
 refine Fact.nil (Zq10 1 3 7 9 10 11 25 26 27 46 hf ?_)
 clear hf sS bB qs; intro fr1 hf sS
 refine Zx hK33 (Fact.cond_f sS.2.2.2.2.2.2.2.2.2 ?_)
 have hoa3 : okArcs i (-1) s.arcs = okArcs i (a.byte : Int) (s.arcs.drop (k + 1)) := by rw [HOA.out, HAT.out]; have := HC.out; rw [decide_eq_true (show 0 <= a.to by omega), decide_eq_true (show a.to < (i : Int) by omega), decide_eq_true (show last < (a.byte : Int) by omega)]; rfl
 have HOA3 := Lib.hid hoa3; clear hoa3
 refine wp_skip (Zx hK32 (rg ?_))
 have bB := hf.B3 47 48 49
 iterate 2 refine Zy ?_
 refine fp fun K Z => ?_
 go_simp
 try simp (disch := omega) only [Fact.wrap_i64]
 apply Z.out; clear Z K
 refine Zy ?_
 refine Fact.nil (Zq9 1 3 5 9 10 11 25 26 27 hf ?_)
 clear hf sS bB; intro fr1 hf sS
 refine Fact.block_normal (Zx hK30 (Zr [50] hf ?_))
 refine Zq9 1 3 5 9 10 11 25 26 27 hf ?_
 clear hf sS; intro fr1 hf sS
 refine Fact.then_normal ?_
 obtain ⟨s1, s3, s5, s9, s10, s11, s25, s26, s27⟩ := sS
 exact ⟨_, by have := HK2.out; omega, k + 1, _, rfl, by omega, hf, s1, s3, s5, s9, s10, s11, s25, s26, by rw [s27]; rfl, HOA3.out, hb6.trans (hb7.mono hb6.size)⟩))
 . (
 have hke : k = s.arcs.length := by have h9 := of_decide_eq_false hq2; omega
 have hoa2 : okArcs i (-1) s.arcs = true := by rw [HOA.out, hke, List.drop_length]; rfl
 have HOA2 := Lib.hid hoa2; clear hoa2 hke hq2
 have hbr := hb.trans ((hb5.trans (hb6.mono hb5.size)).mono hb.size)
 refine Zo ?_
 refine Fact.block_normal (Zx hK6 (Zr [51] hf ?_))
 refine Zq4 1 9 10 11 hf ?_
 clear hf sS; intro fr1 hf sS
 refine Fact.then_normal ?_
 obtain ⟨s1, s9, s10, s11⟩ := sS
 exact ⟨_, by have := HK.out; omega, i + 1, rfl, by omega, hf, s1, s9, s10, by rw [s11]; rfl, by rw [HM.out, HST.out, HFO.out, HOA2.out]; rfl, hbr⟩))))
 . (
 have hie : i = ss.length := by have h9 := of_decide_eq_false hq; omega
 have HIE := Lib.hid hie; clear hie hq
 have e0 := cL hb c0
 refine Zo ?_
 refine Zs hK2 fun _ hK34 => Zr [52, 53, 54, 55] hf ?_
 refine Zq1 2 hf ?_
 clear hf sS; intro fr1 hf s2
 refine Zx hK34 (Zret ?_)
 refine Fact.ret1 rfl hf s2 ⟨?_, hb0.trans (hb.mono hb0.size)⟩
 rw [formedF, HM.out, HIE.out, List.drop_length]
 rfl))
def wcs (l : List (Nat × Nat)) : List Value := l.flatMap fun x => [.int .i64 (x.1 : Int), .int .i64 (x.2 : Int)]
theorem wcs_length (l : List (Nat × Nat)) : (wcs l).length = l.length * 2 := by
 induction l with
 | nil => rfl
 | cons x l ih => simp only [wcs, List.flatMap_cons, List.length_append, List.length_cons] at ih |-; rw [ih]; simp; omega
theorem wcs_append (a b : List (Nat × Nat)) : wcs (a ++ b) = wcs a ++ wcs b := by simp [wcs]
structure OW (w : World) (base : Nat) (v : Value) (l : List (Nat × Nat)) : Prop where
 own : w.ownsRow base 226 2 v l.length (wcs l.reverse)
section
variable {w w' : World} {base n b c s k : Nat} {v : Value} {l R : List (Nat × Nat)}
theorem OW.one (w : World) (s : Nat) : OW (w.alloc (.cells #[.int .i64 (s : Int), .int .i64 0] 226)) w.heap.size (.slice (some ⟨w.heap.size, 0, none⟩) 1 1) [(s, 0)] :=
 ⟨World.ownsRow_lit w #[.int .i64 (s : Int), .int .i64 0] 1 (Nat.le_refl _) (by unfold maxLen; omega) rfl⟩
theorem OW.later (h : OW w base v l) (hb : Below w.heap.size w w') : OW w' base v l := ⟨own_later h.own hb⟩
theorem OW.form (h : OW w base v l) : ∃ A c, v = .slice A l.length c /\ l.length <= c := row_form h.own
theorem OW.top {A : Option Addr} (h : OW w base (.slice A n c) ((s, k) :: R)) : ∃ b, A = some ⟨b, 0, none⟩ /\ base <= b /\ w.cell? ⟨b, R.length * 2, none⟩ = some (.int .i64 (s : Int)) /\ w.cell? ⟨b, R.length * 2 + 1, none⟩ = some (.int .i64 (k : Int)) := by
 have h1 := h.own
 rcases h1.2 with ⟨_, h0⟩ | ⟨b, cap, cur, hv, hb, _⟩
 ·simp at h0
 ·injection hv with hv hn hc
  subst hv; subst hn; subst hc
  refine ⟨b, rfl, hb, ?_, ?_⟩
  ·rw [h1.cellAt _ (by simp only [List.length_cons]; omega), List.reverse_cons, wcs_append, List.getElem?_append_right (by rw [wcs_length]; simp), wcs_length, List.length_reverse, Nat.sub_self]
   rfl
  ·rw [h1.cellAt _ (by simp only [List.length_cons]; omega), List.reverse_cons, wcs_append, List.getElem?_append_right (by rw [wcs_length]; simp), wcs_length, List.length_reverse, show R.length * 2 + 1 - R.length * 2 = 1 by omega]
   rfl
theorem OW.frozen (h : OW w base (.slice (some ⟨b, 0, none⟩) (R.length + 1) c) ((s, k) :: R)) (i : Nat) : w.frozen? ⟨b, i, none⟩ = false := h.own.frozenAt i
theorem OW.bump (h : OW w base (.slice (some ⟨b, 0, none⟩) (R.length + 1) c) ((s, k) :: R)) : OW (w.setCell ⟨b, R.length * 2 + 1, none⟩ (.int .i64 ((k : Int) + 1))) base (.slice (some ⟨b, 0, none⟩) (R.length + 1) c) ((s, k + 1) :: R) := by
 have h1 := (World.ownsRow.stored h.own (R.length * 2 + 1) (.int .i64 ((k : Int) + 1))).1
 refine ⟨?_⟩
 have e : wcs ((s, k + 1) :: R).reverse = (wcs ((s, k) :: R).reverse).set (R.length * 2 + 1) (.int .i64 ((k : Int) + 1)) := by
  rw [List.reverse_cons, List.reverse_cons, wcs_append, wcs_append, List.set_append_right _ _ (by rw [wcs_length]; simp), wcs_length, List.length_reverse, show R.length * 2 + 1 - R.length * 2 = 1 by omega]
  rfl
 rw [e]
 exact h1
theorem OW.lat (h : OW w base v l) (o : Obj) : (w.alloc o).ownsRow base 226 2 v l.length (wcs l.reverse) := h.own.alloc o
theorem OW.push {w5 : World} {v5 : Value} {t : Nat} (h : w5.ownsRow base 226 2 v5 (l.length + 1) (wcs l.reverse ++ [.int .i64 (t : Int), .int .i64 0])) : OW w5 base v5 ((t, 0) :: l) := by
 refine ⟨?_⟩
 rw [List.reverse_cons, wcs_append, List.length_cons]
 exact h
theorem OW.cut (h : OW w base (.slice (some ⟨b, 0, none⟩) (R.length + 1) c) ((s, k) :: R)) : OW w base (.slice (some ⟨b, 0, none⟩) R.length c) R := by
 have h1 := own_take (n := R.length) h.own
 refine ⟨?_⟩
 rw [List.reverse_cons, wcs_append, List.take_append_of_le_length (by rw [wcs_length, List.length_reverse]; exact Nat.le_refl _), List.take_of_length_le (by rw [wcs_length, List.length_reverse]; exact Nat.le_refl _)] at h1
 exact h1
end
theorem beq_nat (a b : Nat) : ((a : Int) == (b : Int)) = decide (a = b) := by
 by_cases h : a = b
 ·subst h; simp
 ·rw [decide_eq_false h]
  exact beq_false_of_ne (by omega)
def okWay (n : Nat) : List (Nat × Nat) -> Prop
 | [] => True
 | (s, _) :: R => s + R.length + 1 <= n /\ okWay n R
theorem okWay_len {n : Nat} {l : List (Nat × Nat)} (h : okWay n l) : l.length <= n := by
 cases l with
 | nil => simp
 | cons x R => obtain ⟨s, k⟩ := x; have := h.1; simp only [List.length_cons]; omega
def phi (n left len : Nat) : Nat := (n - left) * (n + 2) + (n + 1 - len)
theorem phi_push (n left len : Nat) (h : len <= n) : phi n left (len + 1) < phi n left len := by unfold phi; omega
theorem phi_pop (n left len : Nat) (h : left < n) (hl : len + 1 <= n + 1) : phi n (left + 1) len < phi n left (len + 1) := by
 unfold phi
 obtain ⟨d, hd⟩ : ∃ d, n - left = d + 1 := ⟨n - left - 1, by omega⟩
 rw [show n - (left + 1) = d by omega, hd, Nat.succ_mul]
 omega
theorem info_atD : (Tryz.prog.info? 226).map (fun i => (i.zero, i.size, i.bytes)) = some (some (.agg #[.int .i64 0, .int .i64 0]), 2, 16) := by kernel_rfl
theorem ordered33 (w : World) (sv : Value) (init : Nat) (ss : List State) (hrs : RS w sv ss) (hok : ∀ s ∈ ss, okS s) (hlen : ss.length <= 1000000) (h0 : 0 < ss.length) (hA : Ahead ss) : Calls Tryz.prog 104 #[.agg #[sv, .int .u64 init]] w fun e w1 => e = .returned (.bool (orderedF ss)) /\ Below w.heap.size w w1 := by
 refine Zn1 79 Tryz.func104 fun fr hf s0 => ?_
 obtain ⟨A, cc, rfl, hcc⟩ := hrs.form
 have hn1 : ((ss.length : Int) - 1) = ((ss.length - 1 : Nat) : Int) := by omega
 refine Ze fun _ hK1 => Zr [] hf ?_
 refine Zq2 1 2 hf ?_
 clear hf s0; intro fr1 hf sS
 generalize hW0 : w.alloc (.cells #[.slice A ss.length cc, .int .u64 init] 38) = W0
 obtain ⟨hb0, c0, c1, -, hz0_⟩ := box2 hW0
 clear hW0
 have hz0 : w.heap.size < W0.heap.size := by rw [hz0_]; exact Nat.lt_succ_self _
 clear hz0_
 have hr0 := hrs.later hb0
 clear hrs
 refine Zx hK1 (wp_scope_straight ?_)
 refine Ze fun _ hK2 => Zr [] hf ?_
 refine Zq3 1 2 3 hf ?_
 clear hf sS; intro fr1 hf sS
 refine Zt hK2 fun _ hK3 => ?_
 have bB := hf.B6 8 9 10 11 12 13
 iterate 3 refine Zy ?_
 refine fp fun K Z => ?_
 go_simp
 try simp (disch := omega) only [Fact.W]
 try rw [hn1]
 apply Z.out; clear Z K
 iterate 3 refine Zy ?_
 refine Fact.nil (Zq4 1 2 3 4 hf ?_)
 clear hf sS bB; intro fr1 hf sS
 generalize hW1 : W0.alloc (.cells #[.int .i64 ((ss.length - 1 : Nat) : Int), .int .i64 0] 226) = W1
 have hOW := OW.one W0 (ss.length - 1); rw [hW1] at hOW
 have hb1 : Below W0.heap.size W0 W1 := by rw [<- hW1]; exact (Below.refl _ _).alloc (Nat.le_refl _) _
 clear hW1 hn1
 refine Zs hK3 fun _ hK4 => wp_label ?_
 refine Zs hK4 fun _ hK5 => wp_block ?_
 have HO := Lib.hid hok; clear hok
 refine wp_loop_ghost (fun gk fr wr => ∃ (left : Nat) (V : Value) (Wy : List (Nat × Nat)), gk = phi ss.length left Wy.length /\ Fact.Fr 79 fr /\ fr.tmps[1]? = some (.pointer (some ⟨w.heap.size, 0, none⟩)) /\ fr.tmps[3]? = some (.int .i64 left) /\ fr.tmps[4]? = some V /\ OW wr W0.heap.size V Wy /\ contW ss Wy left = orderedF ss /\ okWay ss.length Wy /\ left <= ss.length /\ Below W0.heap.size W0 wr) (phi ss.length 0 1) ?_ ?_
 . (
 obtain ⟨s1, s2, s3, s4⟩ := sS
 exact ⟨0, _, [(ss.length - 1, 0)], rfl, hf, s1, s3, s4, hOW, rfl, ⟨by simp; omega, trivial⟩, Nat.zero_le _, hb1⟩)
 . (
 clear hf sS
 rintro gk fr wr ⟨left, V, Wy, hk, hf, s1, s3, s4, how, hct, hwy, hlf, hb⟩
 have HK := Lib.hid hk; have HC := Lib.hid hct; clear hk hct
 obtain ⟨AV, cv, rfl, hcv⟩ := how.form
 have hwl := okWay_len hwy
 refine Ze fun _ hK6 => Ze fun _ hK7 => Zr [14, 15] hf ?_
 refine Zq4 1 3 4 16 hf ?_
 clear hf s1 s3 s4; intro fr1 hf sS
 refine Zx hK7 (Fact.cond_s sS.2.2.2 (fun hq => ?_) (fun hq => ?_))
 . (
 obtain ⟨⟨s, k⟩, R, rfl⟩ := List.exists_cons_of_ne_nil (show Wy ≠ [] by rintro rfl; simp at hq)
 have HQ := Lib.hid hq; clear hq
 obtain ⟨b, rfl, hbB, d0, d1⟩ := how.top
 have hs1 := hwy.1
 simp only [List.length_cons] at *
 obtain ⟨st, hst⟩ : ∃ st, ss[s]? = some st := ⟨_, gE1 (by omega)⟩
 have hsa : arcsOf ss s = st.arcs := by simp [arcsOf, hst]
 obtain ⟨b2, off2, av, he2, hat0⟩ := hr0.at_ hst
 subst he2
 have hrA := hat0.arcs
 have d5 := old_cell hb hat0.c0 (cell_lt0 hat0.c0)
 obtain ⟨A2, c2, rfl, hc2⟩ := hrA.form
 have hos := HO.out st (gM1 hst)
 have hal := hos.2.1
 have HSA := Lib.hid hsa; have HST := Lib.hid hst; clear hsa hst hat0 hos
 have e0 := old_cell hb c0 hz0
 have hssl := hlen
 refine wp_skip (Zx hK6 (wp_block (Ze fun _ hK8 => rg ?_)))
 have bB := hf.B5 17 18 19 20 21
 iterate 3 refine Zy ?_
 refine fp fun K Z => ?_
 go_simp
 try simp (disch := omega) only [Fact.W]
 try rw [show ((R.length : Int) + 1 - 1) = (R.length : Int) by omega]
 apply Z.out; clear Z K
 iterate 2 refine Zy ?_
 refine Fact.nil (Zq4 1 3 4 5 hf ?_)
 clear hf sS bB; intro fr1 hf sS
 refine Zs hK8 fun _ hK9 => ?_
 obtain ⟨s1, s3, s4, s5⟩ := sS
 refine Stab.tb 79 fun hok => ?_
 refine Stab.T 0 hf hok (fun _ _ h d => Stab.O h s1) ?_
 refine Stab.T 1 hf hok (fun _ _ h d => ad (Stab.vd 0 0 d []) (ad (cL h.ext e0) (ad (cL h.ext d0) (cL h.ext d5)))) ?_
 refine Stab.mO 2 s5 hf hok ?_
 refine Stab.T 3 hf hok (fun _ _ h d => Stab.vd 2 0 d []) ?_
 refine Stab.T 4 hf hok (fun _ _ h d => Stab.vd 3 0 d []) ?_
 refine Stab.T 5 hf hok (fun _ _ h d => ad (Stab.vd 4 0 d []) (ad (cL h.ext e0) (ad (cL h.ext d0) (cL h.ext d5)))) ?_
 refine Stab.Ti 6 hf hok (fun _ _ h d => ad (Stab.vd 1 4 d []) (Stab.vd 5 0 d [])) ?_
 refine Stab.T 7 hf hok (fun _ _ h d => Stab.vd 6 0 d []) ?_
 apply Stab.tq 8 _ hf hok
 . (
 intro fr1 w1 hh hd hk K Z
 have s29 := Stab.v 7 0 hd hk []
 clear hd
 replace e0 := cL hh.ext e0
 replace d0 := cL hh.ext d0
 replace d5 := cL hh.ext d5
 go_simp
 exact Stab.k Z)
 refine Stab.mN 9 8 0 hf hok [] ?_
 refine Stab.E hf hok (fun _ _ h g => ad (Stab.O h s1) (ad (Stab.O h s3) (ad (Stab.O h s4) (ad (Stab.O h s5) (Stab.f 9 0 g))))) ?_
 clear hf hok s1 s3 s4 s5; intro fr1 w1 hf hx sS
 replace e0 := cL hx e0
 replace d0 := cL hx d0
 replace d5 := cL hx d5
 refine Zx hK9 ?_
 have how1 := how.later hx
 have hbx := hb.trans (hx.mono hb.size)
 clear e0 d0 d5 d1
 refine Ze fun _ hK10 => wp_block (wp_loop_ghost (fun gk2 fr wr2 => ∃ (k2 : Nat), gk2 = st.arcs.length - k2 /\ Fact.Fr 79 fr /\ fr.tmps[1]? = some (.pointer (some ⟨w.heap.size, 0, none⟩)) /\ fr.tmps[3]? = some (.int .i64 left) /\ fr.tmps[4]? = some (.slice (some ⟨b, 0, none⟩) (R.length + 1) cv) /\ fr.tmps[5]? = some (.pointer (some ⟨b, R.length * 2, none⟩)) /\ fr.tmps[6]? = some (.slice A2 st.arcs.length c2) /\ OW wr2 W0.heap.size (.slice (some ⟨b, 0, none⟩) (R.length + 1) cv) ((s, k2) :: R) /\ contW ss ((s, k2) :: R) left = orderedF ss /\ Below W0.heap.size W0 wr2) (st.arcs.length - k) ?_ ?_)
 . (
 obtain ⟨s1, s3, s4, s5, s6⟩ := sS
 exact ⟨k, rfl, hf, s1, s3, s4, s5, s6, how1, HC.out, hbx⟩)
 . (
 clear hf sS
 rintro gk2 fr wr2 ⟨k2, hk2, hf, s1, s3, s4, s5, s6, how2, hct2, hb2⟩
 have HK2 := Lib.hid hk2; have HC2 := Lib.hid hct2; clear hk2 hct2
 obtain ⟨b9, he9, _, f0, f1⟩ := how2.top
 injection he9 with he9
 injection he9 with he9
 subst he9
 refine Ze fun _ hK11 => Ze fun _ hK12 => Zr [31, 32, 33, 34, 35, 36] hf ?_
 refine Zq6 1 3 4 5 6 37 hf ?_
 clear hf s1 s3 s4 s5 s6; intro fr1 hf sS
 refine Zx hK12 (Fact.cond_s sS.2.2.2.2.2 (fun hq2 => ?_) (fun hq2 => ?_))
 . (
 have hklt : k2 < st.arcs.length := by have h9 := of_decide_eq_true hq2; omega
 have HQ2 := Lib.hid hq2; clear hq2
 obtain ⟨a, hka⟩ : ∃ a, st.arcs[k2]? = some a := ⟨_, gE1 hklt⟩
 obtain ⟨b3, off3, rfl, hbl, _, _, y2⟩ := hrA.at' hka
 have z2 := old_cell hb2 y2 (cell_lt0 y2)
 have hka2 : (arcsOf ss s)[k2]? = some a := by rw [HSA.out]; exact hka
 have haa := hA s a (gM1 hka2)
 obtain ⟨t, ht⟩ : ∃ t : Nat, a.to = (t : Int) := ⟨a.to.toNat, by omega⟩
 have htt : a.to.toNat = t := by omega
 have hts : t < s := by omega
 have HT := Lib.hid ht; have HTT := Lib.hid htt; have HKA := Lib.hid hka2
 rw [ht] at z2
 clear hka hka2 ht htt haa y2
 have fz := how2.frozen (R.length * 2 + 1)
 have hst2 := how2.bump
 refine wp_skip (Zx hK11 (wp_block (Ze fun _ hK13 => Zr [38, 39, 40, 41, 42, 43, 44, 45] hf ?_)))
 refine Zq6 1 3 4 5 6 7 hf ?_
 clear hf sS; intro fr1 hf sS
 refine Zs hK13 fun _ hK14 => Zr [46, 47, 48, 49, 50, 51, 52] hf ?_
 refine Zq6 1 3 4 5 6 7 hf ?_
 clear hf sS; intro fr1 hf sS
 refine Zs hK14 fun _ hK15 => Zr [53, 54] hf ?_
 refine Zq7 1 3 4 5 6 7 55 hf ?_
 clear hf sS; intro fr1 hf sS
 refine Zx hK15 ?_
 have hb3 : Below W0.heap.size W0 (wr2.setCell ⟨b, R.length * 2 + 1, none⟩ (.int .i64 ((k2 : Int) + 1))) := hb2.setCell (p := ⟨b, R.length * 2 + 1, none⟩) hbB _
 obtain ⟨W3, hW3⟩ : ∃ W3, wr2.setCell ⟨b, R.length * 2 + 1, none⟩ (.int .i64 ((k2 : Int) + 1)) = W3 := ⟨_, rfl⟩
 rw [hW3] at hb3 hst2
 try rw [hW3]
 clear hW3 f0 f1 z2
 refine Fact.cond_s sS.2.2.2.2.2.2 (fun hq3 => ?_) (fun hq3 => ?_)
 . (
 have hge : (left : Int) <= a.to := by rw [HT.out]; have h9 := of_decide_eq_true hq3; omega
 have hcp := cont_push (rest := R) hA HKA.out hge
 rw [HTT.out] at hcp
 have HCP := Lib.hid hcp; clear hcp hge
 have HQ3 := Lib.hid hq3; clear hq3
 refine Ze fun _ hK16 => rg ?_
 have bB := hf.B5 56 57 58 59 60
 iterate 4 refine Zy ?_
 obtain ⟨s1, s3, s4, s5, s6, s7, s55⟩ := sS
 clear bB
 refine Fact.reL (n := 79) (by simp only [Fact.G, hf.size]) hf.defers (fun fr1 hf1 hT => ?_)
 have hKp := Fact.h5 hT 1 3 4 56 59
 simp (decide := true) only [Fact.G, hf.size, reduceIte, s1, s3, s4] at hKp
 replace hf := hf1; clear hT hf1 s1 s3 s4 s5 s6 s7 s55
 obtain ⟨s1, s3, s4, s56, s59⟩ := hKp
 have bB := hf.b 60
 refine ⟨?_⟩
 refine wpList_plain rfl fun K5 hK5 => ?_
 refine wp_app _ _ 227 rfl 226 _ 2 16 Tryz.underlying227 info_atD rfl (by decide) (by decide) W0.heap.size (.slice (some ⟨b, 0, none⟩) (R.length + 1) cv) (R.length + 1) _ (Fact.eval_tmp s56) (OW.lat hst2 _) W3.heap.size [.int .i64 (t : Int), .int .i64 0] (Fact.eval_tmp s59) rfl (lit_new W3 _ _) (by intro u hu; simp at hu; rcases hu with rfl | rfl <;> rfl) (by omega) (by have := hb3.size; simp; omega) (fun v5 w5 hr5 hg5 hat5 => hK5 _ _ ?_)
 refine Fact.L.out ?_
 refine Zy ?_
 refine Fact.nil (Zq3 1 3 4 hf ?_)
 clear hf s1 s3 s4 s56 s59 bB; intro fr1 hf sS
 have how5 := OW.push hr5
 have hb5 : Below W0.heap.size W0 w5 := (hb3.alloc hb3.size _).grown hg5 (by have := hb3.size; simp; omega) (fun kk hkk => by injection hkk with hkk; subst hkk; exact hbB)
 refine Zx hK16 (Zo ?_)
 refine Fact.then_normal ?_
 obtain ⟨s1, s3, s4⟩ := sS
 exact ⟨_, by have := HK.out; rw [this]; exact phi_push _ _ _ (by omega), left, v5, (t, 0) :: (s, k2 + 1) :: R, rfl, hf, s1, s3, s4, how5, by rw [<- HCP.out]; exact HC2.out, ⟨by simp only [List.length_cons]; omega, hwy⟩, hlf, hb5⟩)
 . (
 have hge : ¬ (left : Int) <= a.to := by rw [HT.out]; have h9 := of_decide_eq_false hq3; omega
 have hcn := cont_next (rest := R) HKA.out hge
 have HCN := Lib.hid hcn; clear hcn hge
 have HQ3 := Lib.hid hq3; clear hq3
 refine wp_skip (Fact.block_normal (Fact.then_normal ?_))
 obtain ⟨s1, s3, s4, s5, s6, s7, s55⟩ := sS
 exact ⟨_, by have := HK2.out; omega, k2 + 1, rfl, hf, s1, s3, s4, s5, s6, hst2, by rw [<- HCN.out]; exact HC2.out, hb3⟩))
 . (
 have hle : st.arcs.length <= k2 := by have h9 := of_decide_eq_false hq2; omega
 have hce := cont_end (left := left) (rest := R) (show (arcsOf ss s).length <= k2 by rw [HSA.out]; exact hle)
 have HCE := Lib.hid hce; clear hce hq2
 refine Zo ?_
 refine Zs hK10 fun _ hK17 => Ze fun _ hK18 => Zr [61, 62, 63, 64, 65] hf ?_
 refine Zq4 1 3 4 66 hf ?_
 clear hf sS; intro fr1 hf sS
 refine Zx hK18 (Fact.cond_s sS.2.2.2 (fun hq3 => ?_) (fun hq3 => ?_))
 . (
 have hne : s ≠ left := by simp at hq3; omega
 have hfin : orderedF ss = false := by rw [<- HC2.out, HCE.out, if_neg hne]
 have HFN := Lib.hid hfin; clear hfin hq3
 refine Ze fun _ hK19 => Zr [] hf ?_
 refine Zq1 2 hf ?_
 clear hf sS; intro fr1 hf s2
 refine Zx hK19 (Zret ?_)
 exact Fact.ret1 rfl hf s2 ⟨by rw [HFN.out], hb0.trans (hb2.mono (Nat.le_of_lt hz0))⟩)
 . (
 have heq : s = left := by simp at hq3; omega
 have hcp : contW ss R (left + 1) = orderedF ss := by rw [<- HC2.out, HCE.out, if_pos heq]
 have HCP := Lib.hid hcp; clear hcp hq3
 have HEQ := Lib.hid heq; clear heq
 clear f0 f1
 refine wp_skip (Zs hK17 fun _ hK20 => Zr [67, 68] hf ?_)
 refine Zq3 1 3 4 hf ?_
 clear hf sS; intro fr1 hf sS
 refine Zx hK20 (rg ?_)
 have bB := hf.B5 69 70 71 72 73
 iterate 3 refine Zy ?_
 refine fp fun K Z => ?_
 go_simp
 try simp (disch := omega) only [Fact.W]
 try rw [show ((R.length : Int) + 1 - 1) = (R.length : Int) by omega]
 apply Z.out; clear Z K
 refine fp fun K Z => ?_
 go_simp
 try rw [if_pos (by omega)]
 apply Z.out; clear Z K
 refine Zy ?_
 refine Fact.nil (Zq3 1 3 4 hf ?_)
 clear hf sS bB; intro fr1 hf sS
 refine Fact.block_normal (Fact.then_normal ?_)
 have hlv : left < ss.length := by have := HEQ.out; omega
 obtain ⟨s1, s3, s4⟩ := sS
 exact ⟨_, by have := HK.out; rw [this]; exact phi_pop _ _ _ hlv (by omega), left + 1, _, R, rfl, hf, s1, s3, s4, how2.cut, HCP.out, hwy.2, by omega, hb2⟩))))
 . (
 have hwe : Wy = [] := by have h9 := of_decide_eq_false hq; exact List.eq_nil_of_length_eq_zero (by omega)
 subst hwe
 have e0 := old_cell hb c0 hz0
 have hfin : orderedF ss = decide (left = ss.length) := HC.out.symm
 have HFN := Lib.hid hfin; clear hfin
 refine Zo ?_
 refine Zs hK5 fun _ hK21 => Zr [74, 75, 76, 77, 78] hf ?_
 refine Zq1 2 hf ?_
 clear hf sS; intro fr1 hf s2
 refine Zx hK21 (Zret ?_)
 exact Fact.ret1 rfl hf s2 ⟨by rw [HFN.out, <- beq_nat], hb0.trans (hb.mono (Nat.le_of_lt hz0))⟩))
end Dw
end Go.Proofs.YtcddnmhmcieebaaGreatDoor
