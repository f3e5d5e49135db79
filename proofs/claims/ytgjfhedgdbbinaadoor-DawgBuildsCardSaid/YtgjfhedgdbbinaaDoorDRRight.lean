/- Dawg: the document's word on what is right, walked. -/
import Derived.Test.YtgjfhedgdbbinaaDoorDREnds
import Derived.Test.YtgjfhedgdbbinaaDoorDRForm
import Derived.Test.YtgjfhedgdbbinaaDoorTools
namespace Go.Proofs.YtgjfhedgdbbinaaDoor
open Go.RowKit
set_option linter.unusedSimpArgs false
set_option linter.unusedVariables false
set_option linter.unnecessarySimpa false
namespace Dw
set_option maxHeartbeats 4000000 in
set_option maxRecDepth 100000 in
theorem rright24 (w : World) (sv : Value) (init : Nat) (ss : List State) (hrs : RS w sv ss) (hok : ∀ s ∈ ss, okS s) (hlen : ss.length ≤ 1000000) : Calls Tryd.prog 24 #[.agg #[sv, .int .u64 init]] w fun e w1 => e = .returned (.bool (refRight ss init)) ∧ Below w.heap.size w w1 := by
 refine calls_of_wp Tryd.func24 rfl ?_
 refine Fact.en 113 fun fr hf hT => ?_
 have s0 := hT 0 _ rfl
 clear hT
 obtain ⟨A, cc, rfl, hcc⟩ := hrs.form
 have hok0 := hok
 skip
 refine Fact.sq fun K1 hK1 => ?_
 refine rg ?_
 refine fp fun K Z => ?_
 go_simp
 apply Z.out; clear Z K
 refine fp fun K Z => ?_
 go_simp
 apply Z.out; clear Z K
 refine Fact.z hf fun fr1 hf1 hT => ?_
 have hKp := hT 1
 simp (decide := true) only [Fact.G, hf.size, reduceIte] at hKp
 replace hf := hf1; clear hT hf1 s0
 have s1 := hKp; clear hKp
 obtain ⟨W0, hW0⟩ : ∃ W0, w.alloc (.cells #[.slice A ss.length cc, .int .u64 init] 33) = W0 := ⟨_, rfl⟩
 try rw [hW0]
 obtain ⟨hb0, c0, c1, -, hz0_⟩ := box2 hW0
 clear hW0
 have hz0 : w.heap.size < W0.heap.size := by rw [hz0_]; exact Nat.lt_succ_self _
 clear hz0_
 have hr0 := hrs.later hb0
 clear hrs
 refine nx (hK1 _ _ ?_)
 refine Fact.sq fun K2 hK2 => ?_
 refine Fact.sq fun K3 hK3 => ?_
 refine rg ?_
 have b11 := hf.b 11
 have b12 := hf.b 12
 refine fp fun K Z => ?_
 go_simp
 apply Z.out; clear Z K
 refine fp fun K Z => ?_
 go_simp
 go_at_call 42; refine (rformed42 W0 _ init ss hr0 hok0 hlen).mono ?_; rintro e w1 ⟨rfl, hb1⟩
 try dsimp only
 apply Z.out; clear Z K
 refine fp fun K Z => ?_
 go_simp
 apply Z.out; clear Z K
 refine Fact.z hf fun fr1 hf1 hT => ?_
 have hKp : _ ∧ _ := ⟨hT 1, hT 13⟩
 simp (decide := true) only [Fact.G, hf.size, reduceIte, s1] at hKp
 replace hf := hf1; clear hT hf1 s1 b11 b12
 obtain ⟨s1, s13⟩ := hKp
 have hr1 := hr0.later hb1
 replace c0 := cL hb1 c0; replace c1 := cL hb1 c1
 have hbw := hb0.trans (hb1.mono hb0.size)
 have hzw : w.heap.size < w1.heap.size := by have := hb1.size; omega
 have HO := Lib.hid hok; clear hok hr0 hb0 hb1 hz0
 refine nx (hK3 _ _ ?_)
 rcases hfm : formedF ss with _ | _
 · (
 have HFM := Lib.hid hfm; clear hfm
 have q13 : fr1.tmps[13]? = some (.bool true) := by rw [s13, HFM.out]; rfl
 clear s13
 have s13 := q13; clear q13
 refine Fact.cond_t s13 ?_
 refine Fact.sq fun K4 hK4 => ?_
 refine rg ?_
 refine fp fun K Z => ?_
 go_simp
 apply Z.out; clear Z K
 refine Fact.z hf fun fr1 hf1 hT => ?_
 have hKp := hT 2
 simp (decide := true) only [Fact.G, hf.size, reduceIte] at hKp
 replace hf := hf1; clear hT hf1 s1 s13
 have s2 := hKp; clear hKp
 refine nx (hK4 _ _ ?_)
 refine wp_ret ?_
 refine Fact.then_ret ?_
 exact Fact.ret1 rfl hf s2 ⟨by rw [refRight, HFM.out]; rfl, hbw⟩)
 · (
 obtain ⟨hA, h0⟩ := formed_Ahead hfm
 have HFM := Lib.hid hfm; clear hfm
 have q13 : fr1.tmps[13]? = some (.bool false) := by rw [s13, HFM.out]; rfl
 clear s13
 have s13 := q13; clear q13
 refine Fact.cond_f s13 ?_
 obtain ⟨root, hroot⟩ : ∃ root, ss[ss.length - 1]? = some root := ⟨_, List.getElem?_eq_getElem (by omega)⟩
 have hn1 : ((ss.length : Int) - 1) = ((ss.length - 1 : Nat) : Int) := by omega
 obtain ⟨b, off, av, hAb, hat⟩ := hr1.at_ hroot
 subst hAb
 have d0 := hat.c0; have d1 := hat.c1; have d2 := hat.c2
 obtain ⟨Ar, cr, rfl, _⟩ := hat.arcs.form
 have hrl := (HO.out root (List.mem_of_getElem? hroot)).2.1
 have HN1 := Lib.hid hn1; have HR := Lib.hid hroot; have HAH := Lib.hid hA; clear hn1 hroot hat hA
 have hrr : refRight ss init = if !root.final && decide (root.arcs.length = 0) then decide (ss.length = 1) && decide (init = 0) else decide ((endsL ss ss.length (ss.length - 1) []).length = ss.length) && refAll ss (endsL ss ss.length (ss.length - 1) []) 0 ss := by rw [refRight, HFM.out, getLast_of HR.out]; rfl
 have HRR := Lib.hid hrr; clear hrr
 refine wp_skip ?_
 refine nx (hK2 _ _ ?_)
 refine Fact.sq fun K5 hK5 => ?_
 refine rg ?_
 have b14 := hf.b 14
 have b15 := hf.b 15
 have b16 := hf.b 16
 have b17 := hf.b 17
 refine fp fun K Z => ?_
 go_simp
 apply Z.out; clear Z K
 refine fp fun K Z => ?_
 go_simp
 apply Z.out; clear Z K
 refine fp fun K Z => ?_
 go_simp
 apply Z.out; clear Z K
 refine fp fun K Z => ?_
 go_simp
 try simp (disch := omega) only [Fact.W]
 rw [HN1.out]
 apply Z.out; clear Z K
 refine fp fun K Z => ?_
 go_simp
 apply Z.out; clear Z K
 refine Fact.z hf fun fr1 hf1 hT => ?_
 have hKp : _ ∧ _ := ⟨hT 1, hT 3⟩
 simp (decide := true) only [Fact.G, hf.size, reduceIte, s1] at hKp
 replace hf := hf1; clear hT hf1 s1 s13 b14 b15 b16 b17
 obtain ⟨s1, s3⟩ := hKp
 refine nx (hK5 _ _ ?_)
 refine Fact.sq fun K6 hK6 => ?_
 refine rg ?_
 have b18 := hf.b 18
 have b19 := hf.b 19
 have b20 := hf.b 20
 have b21 := hf.b 21
 have b22 := hf.b 22
 have b4 := hf.b 4
 refine fp fun K Z => ?_
 go_simp
 apply Z.out; clear Z K
 refine fp fun K Z => ?_
 go_simp
 apply Z.out; clear Z K
 refine fp fun K Z => ?_
 go_simp
 apply Z.out; clear Z K
 refine fp fun K Z => ?_
 go_simp
 try rw [if_pos (by omega)]
 apply Z.out; clear Z K
 refine fp fun K Z => ?_
 go_simp
 apply Z.out; clear Z K
 refine fp fun K Z => ?_
 go_simp
 apply Z.out; clear Z K
 refine fp fun K Z => ?_
 go_simp
 apply Z.out; clear Z K
 refine Fact.z hf fun fr1 hf1 hT => ?_
 have hKp : _ ∧ _ ∧ _ := ⟨hT 1, hT 3, hT 4⟩
 simp (decide := true) only [Fact.G, hf.size, reduceIte, s1, s3] at hKp
 replace hf := hf1; clear hT hf1 s1 s3 b18 b19 b20 b21 b22 b4
 obtain ⟨s1, s3, s4⟩ := hKp
 obtain ⟨W2, hW2⟩ : ∃ W0, w1.alloc (.cells #[.slice Ar root.arcs.length cr, .bool root.final, .int .u64 root.out] 61) = W0 := ⟨_, rfl⟩
 try rw [hW2]
 obtain ⟨hb2, x0, x1, -, -, -⟩ := box3 hW2
 clear hW2
 clear d0 d1 d2
 have hr2 := hr1.later hb2
 replace c0 := cL hb2 c0; replace c1 := cL hb2 c1
 have hbw2 := hbw.trans (hb2.mono (by omega))
 have hzw2 : w.heap.size < W2.heap.size := by have := hb2.size; omega
 clear hr1 hb2 hbw
 refine nx (hK6 _ _ ?_)
 refine Fact.seq_meet (fun fr wq => Fact.Fr 113 fr ∧ fr.tmps[1]? = some (.pointer (some ⟨w.heap.size, 0, none⟩)) ∧ fr.tmps[3]? = some (.int .i64 (ss.length - 1 : Nat)) ∧ wq = W2 ∧ refRight ss init = (decide ((endsL ss ss.length (ss.length - 1) []).length = ss.length) && refAll ss (endsL ss ss.length (ss.length - 1) []) 0 ss)) ?_ ?_
 · (
 rcases hfin : root.final with _ | _
 · (
 have q1 := hfin
 by_cases h5 : root.arcs.length = 0
 · (
 have q2 : (((root.arcs.length : Nat) : Int) == 0) = true := beq_iff_eq.2 (by omega)
 have hrec : refRight ss init = (decide (ss.length = 1) && decide (init = 0)) := by rw [HRR.out, hfin, decide_eq_true h5]; rfl
 have HREC := Lib.hid hrec; clear hrec hfin
 refine Fact.sq fun K7 hK7 => ?_
 refine rg ?_
 have b23 := hf.b 23
 have b24 := hf.b 24
 have b25 := hf.b 25
 have b26 := hf.b 26
 have b27 := hf.b 27
 have b28 := hf.b 28
 have b29 := hf.b 29
 have b30 := hf.b 30
 refine fp fun K Z => ?_
 go_simp
 apply Z.out; clear Z K
 refine fp fun K Z => ?_
 go_simp
 apply Z.out; clear Z K
 refine fp fun K Z => ?_
 go_simp
 apply Z.out; clear Z K
 refine fp fun K Z => ?_
 go_simp
 apply Z.out; clear Z K
 refine og 3 26 true ?_ fun K Z => ?_
 · (
 simp (decide := true) only [Fact.G, reduceIte, hf.size, q1, q2, Fact.N])
 go_simp
 apply Z.out; clear Z K
 refine og 3 26 true ?_ fun K Z => ?_
 · (
 simp (decide := true) only [Fact.G, reduceIte, hf.size, q1, q2, Fact.N])
 go_simp
 apply Z.out; clear Z K
 refine og 3 26 true ?_ fun K Z => ?_
 · (
 simp (decide := true) only [Fact.G, reduceIte, hf.size, q1, q2, Fact.N])
 go_simp
 apply Z.out; clear Z K
 refine og 3 26 true ?_ fun K Z => ?_
 · (
 simp (decide := true) only [Fact.G, reduceIte, hf.size, q1, q2, Fact.N])
 go_simp
 apply Z.out; clear Z K
 refine fp fun K Z => ?_
 go_simp
 apply Z.out; clear Z K
 refine Fact.z hf fun fr1 hf1 hT => ?_
 have hKp : _ ∧ _ ∧ _ := ⟨hT 1, hT 3, hT 31⟩
 simp (decide := true) only [Fact.G, hf.size, reduceIte, s1, s3] at hKp
 replace hf := hf1; clear hT hf1 s1 s3 s4 b23 b24 b25 b26 b27 b28 b29 b30
 obtain ⟨s1, s3, s31⟩ := hKp
 refine nx (hK7 _ _ ?_)
 refine Fact.cond_t s31 ?_
 clear q1 q2
 by_cases h1 : ss.length = 1
 · (
 have q3 : (((ss.length - 1 : Nat) : Int) == 0) = true := beq_iff_eq.2 (by omega)
 have H1 := Lib.hid h1; clear h1
 refine Fact.sq fun K8 hK8 => ?_
 refine rg ?_
 have b32 := hf.b 32
 have b33 := hf.b 33
 have b34 := hf.b 34
 have b35 := hf.b 35
 have b36 := hf.b 36
 have b37 := hf.b 37
 have b38 := hf.b 38
 refine fp fun K Z => ?_
 go_simp
 apply Z.out; clear Z K
 refine fp fun K Z => ?_
 go_simp
 apply Z.out; clear Z K
 refine fp fun K Z => ?_
 go_simp
 apply Z.out; clear Z K
 refine og 2 34 true ?_ fun K Z => ?_
 · (
 simp (decide := true) only [Fact.G, reduceIte, hf.size, q3])
 go_simp
 apply Z.out; clear Z K
 refine og 2 34 true ?_ fun K Z => ?_
 · (
 simp (decide := true) only [Fact.G, reduceIte, hf.size, q3])
 go_simp
 apply Z.out; clear Z K
 refine og 2 34 true ?_ fun K Z => ?_
 · (
 simp (decide := true) only [Fact.G, reduceIte, hf.size, q3])
 go_simp
 apply Z.out; clear Z K
 refine fp fun K Z => ?_
 go_simp
 apply Z.out; clear Z K
 refine fp fun K Z => ?_
 go_simp
 apply Z.out; clear Z K
 refine Fact.z hf fun fr1 hf1 hT => ?_
 have hKp := hT 2
 simp (decide := true) only [Fact.G, hf.size, reduceIte] at hKp
 replace hf := hf1; clear hT hf1 s1 s3 s31 b32 b33 b34 b35 b36 b37 b38
 have s2 := hKp; clear hKp
 refine nx (hK8 _ _ ?_)
 refine wp_ret ?_
 refine Fact.then_ret ?_
 refine Fact.ret1 rfl hf s2 ⟨?_, hbw2⟩
 rw [HREC.out, decide_eq_true H1.out]
 rw [← beq_nat init 0]; rfl)
 · (
 have q3 : (((ss.length - 1 : Nat) : Int) == 0) = false := beq_false_of_ne (by omega)
 have H1 := Lib.hid h1; clear h1
 refine Fact.sq fun K9 hK9 => ?_
 refine rg ?_
 have b32 := hf.b 32
 have b33 := hf.b 33
 have b34 := hf.b 34
 have b35 := hf.b 35
 have b36 := hf.b 36
 have b37 := hf.b 37
 have b38 := hf.b 38
 refine fp fun K Z => ?_
 go_simp
 apply Z.out; clear Z K
 refine fp fun K Z => ?_
 go_simp
 apply Z.out; clear Z K
 refine fp fun K Z => ?_
 go_simp
 apply Z.out; clear Z K
 refine sk 2 34 true ?_ ?_
 · (
 simp (decide := true) only [Fact.G, reduceIte, hf.size, q3, Fact.N])
 refine sk 2 34 true ?_ ?_
 · (
 simp (decide := true) only [Fact.G, reduceIte, hf.size, q3, Fact.N])
 refine sk 2 34 true ?_ ?_
 · (
 simp (decide := true) only [Fact.G, reduceIte, hf.size, q3, Fact.N])
 refine fp fun K Z => ?_
 go_simp
 apply Z.out; clear Z K
 refine fp fun K Z => ?_
 go_simp
 apply Z.out; clear Z K
 refine Fact.z hf fun fr1 hf1 hT => ?_
 have hKp := hT 2
 simp (decide := true) only [Fact.G, hf.size, reduceIte] at hKp
 replace hf := hf1; clear hT hf1 s1 s3 s31 b32 b33 b34 b35 b36 b37 b38
 have s2 := hKp; clear hKp
 refine nx (hK9 _ _ ?_)
 refine wp_ret ?_
 refine Fact.then_ret ?_
 refine Fact.ret1 rfl hf s2 ⟨?_, hbw2⟩
 rw [HREC.out, decide_eq_false H1.out]
 rfl))
 · (
 have q2 : (((root.arcs.length : Nat) : Int) == 0) = false := beq_false_of_ne (by omega)
 have hrec : refRight ss init = (decide ((endsL ss ss.length (ss.length - 1) []).length = ss.length) && refAll ss (endsL ss ss.length (ss.length - 1) []) 0 ss) := by rw [HRR.out, hfin, decide_eq_false h5]; rfl
 have HREC := Lib.hid hrec; clear hrec hfin
 refine Fact.sq fun K10 hK10 => ?_
 refine rg ?_
 have b23 := hf.b 23
 have b24 := hf.b 24
 have b25 := hf.b 25
 have b26 := hf.b 26
 have b27 := hf.b 27
 have b28 := hf.b 28
 have b29 := hf.b 29
 have b30 := hf.b 30
 refine fp fun K Z => ?_
 go_simp
 apply Z.out; clear Z K
 refine fp fun K Z => ?_
 go_simp
 apply Z.out; clear Z K
 refine fp fun K Z => ?_
 go_simp
 apply Z.out; clear Z K
 refine fp fun K Z => ?_
 go_simp
 apply Z.out; clear Z K
 refine og 3 26 true ?_ fun K Z => ?_
 · (
 simp (decide := true) only [Fact.G, reduceIte, hf.size, q1, q2, Fact.N])
 go_simp
 apply Z.out; clear Z K
 refine og 3 26 true ?_ fun K Z => ?_
 · (
 simp (decide := true) only [Fact.G, reduceIte, hf.size, q1, q2, Fact.N])
 go_simp
 apply Z.out; clear Z K
 refine og 3 26 true ?_ fun K Z => ?_
 · (
 simp (decide := true) only [Fact.G, reduceIte, hf.size, q1, q2, Fact.N])
 go_simp
 apply Z.out; clear Z K
 refine og 3 26 true ?_ fun K Z => ?_
 · (
 simp (decide := true) only [Fact.G, reduceIte, hf.size, q1, q2, Fact.N])
 go_simp
 apply Z.out; clear Z K
 refine fp fun K Z => ?_
 go_simp
 apply Z.out; clear Z K
 refine Fact.z hf fun fr1 hf1 hT => ?_
 have hKp : _ ∧ _ ∧ _ := ⟨hT 1, hT 3, hT 31⟩
 simp (decide := true) only [Fact.G, hf.size, reduceIte, s1, s3] at hKp
 replace hf := hf1; clear hT hf1 s1 s3 s4 b23 b24 b25 b26 b27 b28 b29 b30
 obtain ⟨s1, s3, s31⟩ := hKp
 refine nx (hK10 _ _ ?_)
 refine Fact.cond_f s31 ?_
 clear q1 q2
 refine wp_skip ?_
 refine Fact.then_normal ?_
 exact ⟨hf, s1, s3, rfl, HREC.out⟩))
 · (
 have q1 := hfin
 have hrec : refRight ss init = (decide ((endsL ss ss.length (ss.length - 1) []).length = ss.length) && refAll ss (endsL ss ss.length (ss.length - 1) []) 0 ss) := by rw [HRR.out, hfin]; rfl
 have HREC := Lib.hid hrec; clear hrec hfin
 refine Fact.sq fun K11 hK11 => ?_
 refine rg ?_
 have b23 := hf.b 23
 have b24 := hf.b 24
 have b25 := hf.b 25
 have b26 := hf.b 26
 have b27 := hf.b 27
 have b28 := hf.b 28
 have b29 := hf.b 29
 have b30 := hf.b 30
 refine fp fun K Z => ?_
 go_simp
 apply Z.out; clear Z K
 refine fp fun K Z => ?_
 go_simp
 apply Z.out; clear Z K
 refine fp fun K Z => ?_
 go_simp
 apply Z.out; clear Z K
 refine fp fun K Z => ?_
 go_simp
 apply Z.out; clear Z K
 refine sk 3 26 true ?_ ?_
 · (
 simp (decide := true) only [Fact.G, reduceIte, hf.size, q1, Fact.N])
 refine sk 3 26 true ?_ ?_
 · (
 simp (decide := true) only [Fact.G, reduceIte, hf.size, q1, Fact.N])
 refine sk 3 26 true ?_ ?_
 · (
 simp (decide := true) only [Fact.G, reduceIte, hf.size, q1, Fact.N])
 refine sk 3 26 true ?_ ?_
 · (
 simp (decide := true) only [Fact.G, reduceIte, hf.size, q1, Fact.N])
 refine fp fun K Z => ?_
 go_simp
 apply Z.out; clear Z K
 refine Fact.z hf fun fr1 hf1 hT => ?_
 have hKp : _ ∧ _ ∧ _ := ⟨hT 1, hT 3, hT 31⟩
 simp (decide := true) only [Fact.G, hf.size, reduceIte, s1, s3] at hKp
 replace hf := hf1; clear hT hf1 s1 s3 s4 b23 b24 b25 b26 b27 b28 b29 b30
 obtain ⟨s1, s3, s31⟩ := hKp
 refine nx (hK11 _ _ ?_)
 refine Fact.cond_f s31 ?_
 clear q1
 refine wp_skip ?_
 refine Fact.then_normal ?_
 exact ⟨hf, s1, s3, rfl, HREC.out⟩))
 · (
 clear hf s1 s3 s4
 rintro fr wq ⟨hf, s1, s3, hw, hrec⟩
 subst wq
 have HREC := Lib.hid hrec; clear hrec
 clear x0 x1
 refine Fact.sq fun K12 hK12 => ?_
 refine rg ?_
 have b39 := hf.b 39
 have b40 := hf.b 40
 have b41 := hf.b 41
 refine fp fun K Z => ?_
 go_simp
 apply Z.out; clear Z K
 refine fp fun K Z => ?_
 go_simp
 apply Z.out; clear Z K
 refine fp fun K Z => ?_
 go_simp
 go_at_call 43; refine (ends_any ss.length W2 W2.heap.size W2.heap.size _ init ss (ss.length - 1) [] (.slice none 0 0) (by omega) (by omega) (RSB.of hr2) (Nat.le_refl _) (Nat.le_refl _) (World.ownsRow_nil _ _ _ _) List.nodup_nil (fun x hx => by cases hx) HAH.out HO.out hlen).mono ?_; rintro e w3 ⟨v3, rfl, hoi, hbt, hv3⟩
 try dsimp only
 apply Z.out; clear Z K
 refine fp fun K Z => ?_
 go_simp
 apply Z.out; clear Z K
 refine Fact.z hf fun fr1 hf1 hT => ?_
 have hKp : _ ∧ _ ∧ _ := ⟨hT 1, hT 3, hT 5⟩
 simp (decide := true) only [Fact.G, hf.size, reduceIte, s1, s3] at hKp
 replace hf := hf1; clear hT hf1 s1 s3 b39 b40 b41
 obtain ⟨s1, s3, s5⟩ := hKp
 have hb3 := But.below hbt (Nat.le_refl _) (fun k hk => by cases hk)
 have hr3 := hr2.later hb3
 replace c0 := cL hb3 c0; clear c1
 have hbw3 := hbw2.trans (hb3.mono (Nat.le_of_lt hzw2))
 have hzw3 : w.heap.size < w3.heap.size := by have := hb3.size; omega
 obtain ⟨ord, hord⟩ : ∃ x, (endsL ss ss.length (ss.length - 1) []) = x := ⟨_, rfl⟩
 rw [hord] at hoi
 have hRR := HREC.out
 rw [hord] at hRR
 have HRR2 := Lib.hid hRR; clear hRR hord hbt hv3 hr2 hb3
 obtain ⟨Ao, co, rfl, hco⟩ := OI.form hoi
 refine nx (hK12 _ _ ?_)
 refine Fact.sq fun K13 hK13 => ?_
 refine Fact.sq fun K14 hK14 => ?_
 refine rg ?_
 have b42 := hf.b 42
 have b43 := hf.b 43
 have b44 := hf.b 44
 have b45 := hf.b 45
 have b46 := hf.b 46
 refine fp fun K Z => ?_
 go_simp
 apply Z.out; clear Z K
 refine fp fun K Z => ?_
 go_simp
 apply Z.out; clear Z K
 refine fp fun K Z => ?_
 go_simp
 apply Z.out; clear Z K
 refine fp fun K Z => ?_
 go_simp
 apply Z.out; clear Z K
 refine fp fun K Z => ?_
 go_simp
 apply Z.out; clear Z K
 refine fp fun K Z => ?_
 go_simp
 apply Z.out; clear Z K
 refine Fact.z hf fun fr1 hf1 hT => ?_
 have hKp : _ ∧ _ ∧ _ ∧ _ := ⟨hT 1, hT 3, hT 5, hT 47⟩
 simp (decide := true) only [Fact.G, hf.size, reduceIte, s1, s3, s5] at hKp
 replace hf := hf1; clear hT hf1 s1 s3 s5 b42 b43 b44 b45 b46
 obtain ⟨s1, s3, s5, s47⟩ := hKp
 refine nx (hK14 _ _ ?_)
 refine Fact.cond_s s47 (fun hq => ?_) (fun hq => ?_)
 · (
 have hne : ord.length ≠ ss.length := by intro h9; rw [h9] at hq; simp at hq
 have HNE := Lib.hid hne; clear hne hq
 refine Fact.sq fun K15 hK15 => ?_
 refine rg ?_
 refine fp fun K Z => ?_
 go_simp
 apply Z.out; clear Z K
 refine Fact.z hf fun fr1 hf1 hT => ?_
 have hKp := hT 2
 simp (decide := true) only [Fact.G, hf.size, reduceIte] at hKp
 replace hf := hf1; clear hT hf1 s1 s3 s5 s47
 have s2 := hKp; clear hKp
 refine nx (hK15 _ _ ?_)
 refine wp_ret ?_
 refine Fact.then_ret ?_
 exact Fact.ret1 rfl hf s2 ⟨by rw [HRR2.out, decide_eq_false HNE.out]; rfl, hbw3⟩)
 · (
 have hel : ord.length = ss.length := by have h9 := hq; simp at h9; omega
 have hrr3 : refRight ss init = refAll ss ord 0 ss := by rw [HRR2.out, decide_eq_true hel]; rfl
 have HRR3 := Lib.hid hrr3; have HEL := Lib.hid hel; clear hrr3 hel hq
 refine wp_skip ?_
 refine nx (hK13 _ _ ?_)
 refine Fact.sq fun K16 hK16 => ?_
 refine Fact.sq fun K17 hK17 => ?_
 refine rg ?_
 refine fp fun K Z => ?_
 go_simp
 apply Z.out; clear Z K
 refine Fact.z hf fun fr1 hf1 hT => ?_
 have hKp : _ ∧ _ ∧ _ ∧ _ := ⟨hT 1, hT 3, hT 5, hT 6⟩
 simp (decide := true) only [Fact.G, hf.size, reduceIte, s1, s3, s5] at hKp
 replace hf := hf1; clear hT hf1 s1 s3 s5 s47
 obtain ⟨s1, s3, s5, s6⟩ := hKp
 refine nx (hK17 _ _ ?_)
 refine wp_block ?_
 refine wp_loop_ghost (fun gk fr wr => ∃ (i : Nat), gk = ss.length - i ∧ i ≤ ss.length ∧ Fact.Fr 113 fr ∧ fr.tmps[1]? = some (.pointer (some ⟨w.heap.size, 0, none⟩)) ∧ fr.tmps[3]? = some (.int .i64 (ss.length - 1 : Nat)) ∧ fr.tmps[5]? = some (.slice Ao ord.length co) ∧ fr.tmps[6]? = some (.int .i64 i) ∧ refAll ss ord 0 ss = refAll ss ord i (ss.drop i) ∧ Below w3.heap.size w3 wr) (ss.length) ?_ ?_
 · (
 exact ⟨0, rfl, Nat.zero_le _, hf, s1, s3, s5, s6, rfl, Below.refl _ _⟩)
 · (
 clear hf s1 s3 s5 s6
 rintro gk fr wr ⟨i, hk, hi, hf, s1, s3, s5, s6, hag, hb⟩
 have HK := Lib.hid hk; have HAG := Lib.hid hag; clear hk hag
 have e0 := cL hb c0
 have hrr := hr3.later hb
 have hoir := own_later hoi hb
 refine Fact.sq fun K18 hK18 => ?_
 refine Fact.sq fun K19 hK19 => ?_
 refine rg ?_
 have b48 := hf.b 48
 have b49 := hf.b 49
 refine fp fun K Z => ?_
 go_simp
 apply Z.out; clear Z K
 refine fp fun K Z => ?_
 go_simp
 apply Z.out; clear Z K
 refine fp fun K Z => ?_
 go_simp
 apply Z.out; clear Z K
 refine Fact.z hf fun fr1 hf1 hT => ?_
 have hKp : _ ∧ _ ∧ _ ∧ _ ∧ _ := ⟨hT 1, hT 3, hT 5, hT 6, hT 50⟩
 simp (decide := true) only [Fact.G, hf.size, reduceIte, s1, s3, s5, s6] at hKp
 replace hf := hf1; clear hT hf1 s1 s3 s5 s6 b48 b49
 obtain ⟨s1, s3, s5, s6, s50⟩ := hKp
 refine nx (hK19 _ _ ?_)
 refine Fact.cond_s s50 (fun hq => ?_) (fun hq => ?_)
 · (
 have hlt : i < ss.length := by have h9 := of_decide_eq_true hq; omega
 clear hq
 obtain ⟨s, his⟩ : ∃ s, ss[i]? = some s := ⟨_, List.getElem?_eq_getElem hlt⟩
 obtain ⟨b5, off5, av5, he5, hat⟩ := hrr.at_ his
 injection he5 with he5
 injection he5 with he5 he6 _
 subst he5; subst he6
 have d0 := hat.c0; have d1 := hat.c1; have d2 := hat.c2
 have hra := hat.arcs
 obtain ⟨A5, c5, rfl, _⟩ := hra.form
 have hos := HO.out s (List.mem_of_getElem? his)
 have hsl := hos.2.1
 have hgs := refAll_step (order := ord) his
 have HS := Lib.hid his; have HGS := Lib.hid hgs; clear his hgs hat
 have hio : i < ord.length := by have := HEL.out; omega
 obtain ⟨x, hix⟩ : ∃ x, ord[i]? = some x := ⟨_, List.getElem?_eq_getElem (by have := HEL.out; omega)⟩
 obtain ⟨g, hAo, y0⟩ := OI.at_ hoir hix
 subst hAo
 have HIX := Lib.hid hix; clear hix
 refine wp_skip ?_
 refine nx (hK18 _ _ ?_)
 refine Fact.sq fun K20 hK20 => ?_
 refine wp_block ?_
 refine Fact.sq fun K21 hK21 => ?_
 refine rg ?_
 have b53 := hf.b 53
 have b54 := hf.b 54
 have b55 := hf.b 55
 have b56 := hf.b 56
 have b57 := hf.b 57
 have b7 := hf.b 7
 refine fp fun K Z => ?_
 go_simp
 apply Z.out; clear Z K
 refine fp fun K Z => ?_
 go_simp
 apply Z.out; clear Z K
 refine fp fun K Z => ?_
 go_simp
 apply Z.out; clear Z K
 refine fp fun K Z => ?_
 go_simp
 try rw [if_pos (by omega)]
 apply Z.out; clear Z K
 refine fp fun K Z => ?_
 go_simp
 apply Z.out; clear Z K
 refine fp fun K Z => ?_
 go_simp
 apply Z.out; clear Z K
 refine fp fun K Z => ?_
 go_simp
 apply Z.out; clear Z K
 refine Fact.z hf fun fr1 hf1 hT => ?_
 have hKp : _ ∧ _ ∧ _ ∧ _ ∧ _ := ⟨hT 1, hT 3, hT 5, hT 6, hT 7⟩
 simp (decide := true) only [Fact.G, hf.size, reduceIte, s1, s3, s5, s6] at hKp
 replace hf := hf1; clear hT hf1 s1 s3 s5 s6 s50 b53 b54 b55 b56 b57 b7
 obtain ⟨s1, s3, s5, s6, s7⟩ := hKp
 obtain ⟨W5, hW5⟩ : ∃ W0, wr.alloc (.cells #[.slice A5 s.arcs.length c5, .bool s.final, .int .u64 s.out] 61) = W0 := ⟨_, rfl⟩
 try rw [hW5]
 obtain ⟨hb5, x0, x1, x2, -, -⟩ := box3 hW5
 clear hW5
 clear d0 d1 d2
 replace y0 := cL hb5 y0
 replace e0 := cL hb5 e0
 have hra5 := hra.later hb5
 have hbz := hbw3.trans ((hb.trans (hb5.mono hb.size)).mono (Nat.le_of_lt hzw3))
 have hr5 := hrr.later hb5
 clear hra hrr hoir
 refine nx (hK21 _ _ ?_)
 refine Fact.seq_meet (fun fr wq => Fact.Fr 113 fr ∧ fr.tmps[1]? = some (.pointer (some ⟨w.heap.size, 0, none⟩)) ∧ fr.tmps[3]? = some (.int .i64 (ss.length - 1 : Nat)) ∧ fr.tmps[5]? = some (.slice (some ⟨g, 0, none⟩) ord.length co) ∧ fr.tmps[6]? = some (.int .i64 i) ∧ fr.tmps[7]? = some (.pointer (some ⟨wr.heap.size, 0, none⟩)) ∧ wq = W5 ∧ refGood ss ord i s = (zeroOf s && decide (s ∉ ss.take i))) ?_ ?_
 · (
 by_cases hxi : x = i
 · (
 rcases hfin : s.final with _ | _
 · (
 by_cases h5 : s.arcs.length = 0
 · (
 have q1 : ((x : Int) != (i : Int)) = false := by simp; omega
 have q2 : s.final = false := hfin
 have q3 : (((s.arcs.length : Nat) : Int) == 0) = true := beq_iff_eq.2 (by omega)
 refine Fact.sq fun K22 hK22 => ?_
 refine rg ?_
 have b58 := hf.b 58
 have b59 := hf.b 59
 have b60 := hf.b 60
 have b61 := hf.b 61
 have b62 := hf.b 62
 have b63 := hf.b 63
 have b64 := hf.b 64
 have b65 := hf.b 65
 have b66 := hf.b 66
 have b67 := hf.b 67
 have b68 := hf.b 68
 have b69 := hf.b 69
 have b70 := hf.b 70
 have b71 := hf.b 71
 have b72 := hf.b 72
 have b73 := hf.b 73
 refine fp fun K Z => ?_
 go_simp
 apply Z.out; clear Z K
 refine fp fun K Z => ?_
 go_simp
 apply Z.out; clear Z K
 refine fp fun K Z => ?_
 go_simp
 try rw [if_pos (by omega)]
 apply Z.out; clear Z K
 refine fp fun K Z => ?_
 go_simp
 apply Z.out; clear Z K
 refine fp fun K Z => ?_
 go_simp
 apply Z.out; clear Z K
 refine fp fun K Z => ?_
 go_simp
 apply Z.out; clear Z K
 refine fp fun K Z => ?_
 go_simp
 apply Z.out; clear Z K
 refine og 6 64 false ?_ fun K Z => ?_
 · (
 simp (decide := true) only [Fact.G, reduceIte, hf.size, q1, q2, q3, Fact.N])
 go_simp
 apply Z.out; clear Z K
 refine og 6 64 false ?_ fun K Z => ?_
 · (
 simp (decide := true) only [Fact.G, reduceIte, hf.size, q1, q2, q3, Fact.N])
 go_simp
 apply Z.out; clear Z K
 refine og 6 64 false ?_ fun K Z => ?_
 · (
 simp (decide := true) only [Fact.G, reduceIte, hf.size, q1, q2, q3, Fact.N])
 go_simp
 apply Z.out; clear Z K
 refine og 6 64 false ?_ fun K Z => ?_
 · (
 simp (decide := true) only [Fact.G, reduceIte, hf.size, q1, q2, q3, Fact.N])
 go_simp
 apply Z.out; clear Z K
 refine og 10 68 true ?_ fun K Z => ?_
 · (
 simp (decide := true) only [Fact.G, reduceIte, hf.size, q1, q2, q3, Fact.N])
 go_simp
 apply Z.out; clear Z K
 refine og 10 68 true ?_ fun K Z => ?_
 · (
 simp (decide := true) only [Fact.G, reduceIte, hf.size, q1, q2, q3, Fact.N])
 go_simp
 apply Z.out; clear Z K
 refine og 10 68 true ?_ fun K Z => ?_
 · (
 simp (decide := true) only [Fact.G, reduceIte, hf.size, q1, q2, q3, Fact.N])
 go_simp
 apply Z.out; clear Z K
 refine og 10 68 true ?_ fun K Z => ?_
 · (
 simp (decide := true) only [Fact.G, reduceIte, hf.size, q1, q2, q3, Fact.N])
 go_simp
 apply Z.out; clear Z K
 refine og 6 64 false ?_ fun K Z => ?_
 · (
 simp (decide := true) only [Fact.G, reduceIte, hf.size, q1, q2, q3, Fact.N])
 go_simp
 apply Z.out; clear Z K
 refine fp fun K Z => ?_
 go_simp
 apply Z.out; clear Z K
 refine Fact.z hf fun fr1 hf1 hT => ?_
 have hKp : _ ∧ _ ∧ _ ∧ _ ∧ _ ∧ _ := ⟨hT 1, hT 3, hT 5, hT 6, hT 7, hT 74⟩
 simp (decide := true) only [Fact.G, hf.size, reduceIte, s1, s3, s5, s6, s7] at hKp
 replace hf := hf1; clear hT hf1 s1 s3 s5 s6 s7 b58 b59 b60 b61 b62 b63 b64 b65 b66 b67 b68 b69 b70 b71 b72 b73
 obtain ⟨s1, s3, s5, s6, s7, s74⟩ := hKp
 refine nx (hK22 _ _ ?_)
 refine Fact.cond_t s74 ?_
 have hbad : refRight ss init = false := by rw [HRR3.out, HAG.out, HGS.out]; unfold refGood; rw [HIX.out]; rw [hfin, decide_eq_true h5]; simp
 have HBAD := Lib.hid hbad; clear hbad
 clear q1 q2 q3
 refine Fact.sq fun K23 hK23 => ?_
 refine rg ?_
 refine fp fun K Z => ?_
 go_simp
 apply Z.out; clear Z K
 refine Fact.z hf fun fr1 hf1 hT => ?_
 have hKp := hT 2
 simp (decide := true) only [Fact.G, hf.size, reduceIte] at hKp
 replace hf := hf1; clear hT hf1 s1 s3 s5 s6 s7 s74
 have s2 := hKp; clear hKp
 refine nx (hK23 _ _ ?_)
 refine wp_ret ?_
 refine Fact.then_ret ?_
 refine Fact.block_ret ?_
 refine Fact.then_ret ?_
 refine Fact.then_ret ?_
 refine Fact.block_ret ?_
 refine Fact.then_ret ?_
 exact Fact.ret1 rfl hf s2 ⟨by rw [HBAD.out], hbz⟩)
 · (
 have q1 : ((x : Int) != (i : Int)) = false := by simp; omega
 have q2 : s.final = false := hfin
 have q3 : (((s.arcs.length : Nat) : Int) == 0) = false := beq_false_of_ne (by omega)
 refine Fact.sq fun K24 hK24 => ?_
 refine rg ?_
 have b58 := hf.b 58
 have b59 := hf.b 59
 have b60 := hf.b 60
 have b61 := hf.b 61
 have b62 := hf.b 62
 have b63 := hf.b 63
 have b64 := hf.b 64
 have b65 := hf.b 65
 have b66 := hf.b 66
 have b67 := hf.b 67
 have b68 := hf.b 68
 have b69 := hf.b 69
 have b70 := hf.b 70
 have b71 := hf.b 71
 have b72 := hf.b 72
 have b73 := hf.b 73
 refine fp fun K Z => ?_
 go_simp
 apply Z.out; clear Z K
 refine fp fun K Z => ?_
 go_simp
 apply Z.out; clear Z K
 refine fp fun K Z => ?_
 go_simp
 try rw [if_pos (by omega)]
 apply Z.out; clear Z K
 refine fp fun K Z => ?_
 go_simp
 apply Z.out; clear Z K
 refine fp fun K Z => ?_
 go_simp
 apply Z.out; clear Z K
 refine fp fun K Z => ?_
 go_simp
 apply Z.out; clear Z K
 refine fp fun K Z => ?_
 go_simp
 apply Z.out; clear Z K
 refine og 6 64 false ?_ fun K Z => ?_
 · (
 simp (decide := true) only [Fact.G, reduceIte, hf.size, q1, q2, q3, Fact.N])
 go_simp
 apply Z.out; clear Z K
 refine og 6 64 false ?_ fun K Z => ?_
 · (
 simp (decide := true) only [Fact.G, reduceIte, hf.size, q1, q2, q3, Fact.N])
 go_simp
 apply Z.out; clear Z K
 refine og 6 64 false ?_ fun K Z => ?_
 · (
 simp (decide := true) only [Fact.G, reduceIte, hf.size, q1, q2, q3, Fact.N])
 go_simp
 apply Z.out; clear Z K
 refine og 6 64 false ?_ fun K Z => ?_
 · (
 simp (decide := true) only [Fact.G, reduceIte, hf.size, q1, q2, q3, Fact.N])
 go_simp
 apply Z.out; clear Z K
 refine og 10 68 true ?_ fun K Z => ?_
 · (
 simp (decide := true) only [Fact.G, reduceIte, hf.size, q1, q2, q3, Fact.N])
 go_simp
 apply Z.out; clear Z K
 refine og 10 68 true ?_ fun K Z => ?_
 · (
 simp (decide := true) only [Fact.G, reduceIte, hf.size, q1, q2, q3, Fact.N])
 go_simp
 apply Z.out; clear Z K
 refine og 10 68 true ?_ fun K Z => ?_
 · (
 simp (decide := true) only [Fact.G, reduceIte, hf.size, q1, q2, q3, Fact.N])
 go_simp
 apply Z.out; clear Z K
 refine og 10 68 true ?_ fun K Z => ?_
 · (
 simp (decide := true) only [Fact.G, reduceIte, hf.size, q1, q2, q3, Fact.N])
 go_simp
 apply Z.out; clear Z K
 refine og 6 64 false ?_ fun K Z => ?_
 · (
 simp (decide := true) only [Fact.G, reduceIte, hf.size, q1, q2, q3, Fact.N])
 go_simp
 apply Z.out; clear Z K
 refine fp fun K Z => ?_
 go_simp
 apply Z.out; clear Z K
 refine Fact.z hf fun fr1 hf1 hT => ?_
 have hKp : _ ∧ _ ∧ _ ∧ _ ∧ _ ∧ _ := ⟨hT 1, hT 3, hT 5, hT 6, hT 7, hT 74⟩
 simp (decide := true) only [Fact.G, hf.size, reduceIte, s1, s3, s5, s6, s7] at hKp
 replace hf := hf1; clear hT hf1 s1 s3 s5 s6 s7 b58 b59 b60 b61 b62 b63 b64 b65 b66 b67 b68 b69 b70 b71 b72 b73
 obtain ⟨s1, s3, s5, s6, s7, s74⟩ := hKp
 refine nx (hK24 _ _ ?_)
 refine Fact.cond_f s74 ?_
 have hg1 : refGood ss ord i s = (zeroOf s && decide (s ∉ ss.take i)) := by unfold refGood; rw [HIX.out, hxi, decide_eq_true rfl, hfin, decide_eq_false h5]; rfl
 have HG1 := Lib.hid hg1; clear hg1 q1
 clear q3
 refine wp_skip ?_
 refine Fact.then_normal ?_
 exact ⟨hf, s1, s3, s5, s6, s7, rfl, HG1.out⟩))
 · (
 have q1 : ((x : Int) != (i : Int)) = false := by simp; omega
 have q2 : s.final = true := hfin
 refine Fact.sq fun K25 hK25 => ?_
 refine rg ?_
 have b58 := hf.b 58
 have b59 := hf.b 59
 have b60 := hf.b 60
 have b61 := hf.b 61
 have b62 := hf.b 62
 have b63 := hf.b 63
 have b64 := hf.b 64
 have b65 := hf.b 65
 have b66 := hf.b 66
 have b67 := hf.b 67
 have b68 := hf.b 68
 have b69 := hf.b 69
 have b70 := hf.b 70
 have b71 := hf.b 71
 have b72 := hf.b 72
 have b73 := hf.b 73
 refine fp fun K Z => ?_
 go_simp
 apply Z.out; clear Z K
 refine fp fun K Z => ?_
 go_simp
 apply Z.out; clear Z K
 refine fp fun K Z => ?_
 go_simp
 try rw [if_pos (by omega)]
 apply Z.out; clear Z K
 refine fp fun K Z => ?_
 go_simp
 apply Z.out; clear Z K
 refine fp fun K Z => ?_
 go_simp
 apply Z.out; clear Z K
 refine fp fun K Z => ?_
 go_simp
 apply Z.out; clear Z K
 refine fp fun K Z => ?_
 go_simp
 apply Z.out; clear Z K
 refine og 6 64 false ?_ fun K Z => ?_
 · (
 simp (decide := true) only [Fact.G, reduceIte, hf.size, q1, q2, Fact.N])
 go_simp
 apply Z.out; clear Z K
 refine og 6 64 false ?_ fun K Z => ?_
 · (
 simp (decide := true) only [Fact.G, reduceIte, hf.size, q1, q2, Fact.N])
 go_simp
 apply Z.out; clear Z K
 refine og 6 64 false ?_ fun K Z => ?_
 · (
 simp (decide := true) only [Fact.G, reduceIte, hf.size, q1, q2, Fact.N])
 go_simp
 apply Z.out; clear Z K
 refine og 6 64 false ?_ fun K Z => ?_
 · (
 simp (decide := true) only [Fact.G, reduceIte, hf.size, q1, q2, Fact.N])
 go_simp
 apply Z.out; clear Z K
 refine sk 10 68 true ?_ ?_
 · (
 simp (decide := true) only [Fact.G, reduceIte, hf.size, q1, q2, Fact.N])
 refine sk 10 68 true ?_ ?_
 · (
 simp (decide := true) only [Fact.G, reduceIte, hf.size, q1, q2, Fact.N])
 refine sk 10 68 true ?_ ?_
 · (
 simp (decide := true) only [Fact.G, reduceIte, hf.size, q1, q2, Fact.N])
 refine sk 10 68 true ?_ ?_
 · (
 simp (decide := true) only [Fact.G, reduceIte, hf.size, q1, q2, Fact.N])
 refine og 6 64 false ?_ fun K Z => ?_
 · (
 simp (decide := true) only [Fact.G, reduceIte, hf.size, q1, q2, Fact.N])
 go_simp
 apply Z.out; clear Z K
 refine fp fun K Z => ?_
 go_simp
 apply Z.out; clear Z K
 refine Fact.z hf fun fr1 hf1 hT => ?_
 have hKp : _ ∧ _ ∧ _ ∧ _ ∧ _ ∧ _ := ⟨hT 1, hT 3, hT 5, hT 6, hT 7, hT 74⟩
 simp (decide := true) only [Fact.G, hf.size, reduceIte, s1, s3, s5, s6, s7] at hKp
 replace hf := hf1; clear hT hf1 s1 s3 s5 s6 s7 b58 b59 b60 b61 b62 b63 b64 b65 b66 b67 b68 b69 b70 b71 b72 b73
 obtain ⟨s1, s3, s5, s6, s7, s74⟩ := hKp
 refine nx (hK25 _ _ ?_)
 refine Fact.cond_f s74 ?_
 have hg1 : refGood ss ord i s = (zeroOf s && decide (s ∉ ss.take i)) := by unfold refGood; rw [HIX.out, hxi, decide_eq_true rfl, hfin]; rfl
 have HG1 := Lib.hid hg1; clear hg1 q1
 refine wp_skip ?_
 refine Fact.then_normal ?_
 exact ⟨hf, s1, s3, s5, s6, s7, rfl, HG1.out⟩))
 · (
 have q1 : ((x : Int) != (i : Int)) = true := by simp; omega
 refine Fact.sq fun K26 hK26 => ?_
 refine rg ?_
 have b58 := hf.b 58
 have b59 := hf.b 59
 have b60 := hf.b 60
 have b61 := hf.b 61
 have b62 := hf.b 62
 have b63 := hf.b 63
 have b64 := hf.b 64
 have b65 := hf.b 65
 have b66 := hf.b 66
 have b67 := hf.b 67
 have b68 := hf.b 68
 have b69 := hf.b 69
 have b70 := hf.b 70
 have b71 := hf.b 71
 have b72 := hf.b 72
 have b73 := hf.b 73
 refine fp fun K Z => ?_
 go_simp
 apply Z.out; clear Z K
 refine fp fun K Z => ?_
 go_simp
 apply Z.out; clear Z K
 refine fp fun K Z => ?_
 go_simp
 try rw [if_pos (by omega)]
 apply Z.out; clear Z K
 refine fp fun K Z => ?_
 go_simp
 apply Z.out; clear Z K
 refine fp fun K Z => ?_
 go_simp
 apply Z.out; clear Z K
 refine fp fun K Z => ?_
 go_simp
 apply Z.out; clear Z K
 refine fp fun K Z => ?_
 go_simp
 apply Z.out; clear Z K
 refine sk 6 64 false ?_ ?_
 · (
 simp (decide := true) only [Fact.G, reduceIte, hf.size, q1, Fact.N])
 refine sk 6 64 false ?_ ?_
 · (
 simp (decide := true) only [Fact.G, reduceIte, hf.size, q1, Fact.N])
 refine sk 6 64 false ?_ ?_
 · (
 simp (decide := true) only [Fact.G, reduceIte, hf.size, q1, Fact.N])
 refine sk 6 64 false ?_ ?_
 · (
 simp (decide := true) only [Fact.G, reduceIte, hf.size, q1, Fact.N])
 refine sku 10 68 true ?_ ?_
 · (
 simp (decide := true) only [Fact.G, reduceIte, hf.size, q1, Fact.N])
 refine sku 10 68 true ?_ ?_
 · (
 simp (decide := true) only [Fact.G, reduceIte, hf.size, q1, Fact.N])
 refine sku 10 68 true ?_ ?_
 · (
 simp (decide := true) only [Fact.G, reduceIte, hf.size, q1, Fact.N])
 refine sku 10 68 true ?_ ?_
 · (
 simp (decide := true) only [Fact.G, reduceIte, hf.size, q1, Fact.N])
 refine sk 6 64 false ?_ ?_
 · (
 simp (decide := true) only [Fact.G, reduceIte, hf.size, q1, Fact.N])
 refine fp fun K Z => ?_
 go_simp
 apply Z.out; clear Z K
 refine Fact.z hf fun fr1 hf1 hT => ?_
 have hKp : _ ∧ _ ∧ _ ∧ _ ∧ _ ∧ _ := ⟨hT 1, hT 3, hT 5, hT 6, hT 7, hT 74⟩
 simp (decide := true) only [Fact.G, hf.size, reduceIte, s1, s3, s5, s6, s7] at hKp
 replace hf := hf1; clear hT hf1 s1 s3 s5 s6 s7 b58 b59 b60 b61 b62 b63 b64 b65 b66 b67 b68 b69 b70 b71 b72 b73
 obtain ⟨s1, s3, s5, s6, s7, s74⟩ := hKp
 refine nx (hK26 _ _ ?_)
 refine Fact.cond_t s74 ?_
 have hbad : refRight ss init = false := by rw [HRR3.out, HAG.out, HGS.out]; unfold refGood; rw [HIX.out]; rw [decide_eq_false (by intro h; injection h with h; exact hxi h)]; rfl
 have HBAD := Lib.hid hbad; clear hbad
 clear q1
 refine Fact.sq fun K27 hK27 => ?_
 refine rg ?_
 refine fp fun K Z => ?_
 go_simp
 apply Z.out; clear Z K
 refine Fact.z hf fun fr1 hf1 hT => ?_
 have hKp := hT 2
 simp (decide := true) only [Fact.G, hf.size, reduceIte] at hKp
 replace hf := hf1; clear hT hf1 s1 s3 s5 s6 s7 s74
 have s2 := hKp; clear hKp
 refine nx (hK27 _ _ ?_)
 refine wp_ret ?_
 refine Fact.then_ret ?_
 refine Fact.block_ret ?_
 refine Fact.then_ret ?_
 refine Fact.then_ret ?_
 refine Fact.block_ret ?_
 refine Fact.then_ret ?_
 exact Fact.ret1 rfl hf s2 ⟨by rw [HBAD.out], hbz⟩))
 · (
 clear hf s1 s3 s5 s6 s7
 rintro fr wq ⟨hf, s1, s3, s5, s6, s7, hw, hg1⟩
 subst wq
 have HG1 := Lib.hid hg1; clear hg1
 refine Fact.seq_meet (fun fr wq => Fact.Fr 113 fr ∧ fr.tmps[1]? = some (.pointer (some ⟨w.heap.size, 0, none⟩)) ∧ fr.tmps[3]? = some (.int .i64 (ss.length - 1 : Nat)) ∧ fr.tmps[5]? = some (.slice (some ⟨g, 0, none⟩) ord.length co) ∧ fr.tmps[6]? = some (.int .i64 i) ∧ fr.tmps[7]? = some (.pointer (some ⟨wr.heap.size, 0, none⟩)) ∧ fr.tmps[8]? = some (.bool (s.final && decide (s.out = 0))) ∧ wq = W5) ?_ ?_
 · (
 rcases hfin : s.final with _ | _
 · (
 have q2 := hfin
 refine rg ?_
 have b75 := hf.b 75
 have b76 := hf.b 76
 have b77 := hf.b 77
 have b78 := hf.b 78
 have b79 := hf.b 79
 have b80 := hf.b 80
 have b81 := hf.b 81
 refine fp fun K Z => ?_
 go_simp
 apply Z.out; clear Z K
 refine fp fun K Z => ?_
 go_simp
 apply Z.out; clear Z K
 refine fp fun K Z => ?_
 go_simp
 apply Z.out; clear Z K
 refine sk 2 77 true ?_ ?_
 · (
 simp (decide := true) only [Fact.G, reduceIte, hf.size, q2, Fact.N])
 refine sk 2 77 true ?_ ?_
 · (
 simp (decide := true) only [Fact.G, reduceIte, hf.size, q2, Fact.N])
 refine sk 2 77 true ?_ ?_
 · (
 simp (decide := true) only [Fact.G, reduceIte, hf.size, q2, Fact.N])
 refine fp fun K Z => ?_
 go_simp
 apply Z.out; clear Z K
 refine fp fun K Z => ?_
 go_simp
 apply Z.out; clear Z K
 refine Fact.z hf fun fr1 hf1 hT => ?_
 have hKp : _ ∧ _ ∧ _ ∧ _ ∧ _ ∧ _ := ⟨hT 1, hT 3, hT 5, hT 6, hT 7, hT 8⟩
 simp (decide := true) only [Fact.G, hf.size, reduceIte, s1, s3, s5, s6, s7] at hKp
 replace hf := hf1; clear hT hf1 s1 s3 s5 s6 s7 b75 b76 b77 b78 b79 b80 b81
 obtain ⟨s1, s3, s5, s6, s7, s8⟩ := hKp
 clear q2 hfin
 refine Fact.then_normal ?_
 exact ⟨hf, s1, s3, s5, s6, s7, s8, rfl⟩)
 · (
 have q2 := hfin
 refine rg ?_
 have b75 := hf.b 75
 have b76 := hf.b 76
 have b77 := hf.b 77
 have b78 := hf.b 78
 have b79 := hf.b 79
 have b80 := hf.b 80
 have b81 := hf.b 81
 refine fp fun K Z => ?_
 go_simp
 apply Z.out; clear Z K
 refine fp fun K Z => ?_
 go_simp
 apply Z.out; clear Z K
 refine fp fun K Z => ?_
 go_simp
 apply Z.out; clear Z K
 refine og 2 77 true ?_ fun K Z => ?_
 · (
 simp (decide := true) only [Fact.G, reduceIte, hf.size, q2, Fact.N])
 go_simp
 apply Z.out; clear Z K
 refine og 2 77 true ?_ fun K Z => ?_
 · (
 simp (decide := true) only [Fact.G, reduceIte, hf.size, q2, Fact.N])
 go_simp
 apply Z.out; clear Z K
 refine og 2 77 true ?_ fun K Z => ?_
 · (
 simp (decide := true) only [Fact.G, reduceIte, hf.size, q2, Fact.N])
 go_simp
 rw [show ((s.out : Int) == 0) = decide (s.out = 0) from beq_nat s.out 0]
 apply Z.out; clear Z K
 refine fp fun K Z => ?_
 go_simp
 apply Z.out; clear Z K
 refine fp fun K Z => ?_
 go_simp
 apply Z.out; clear Z K
 refine Fact.z hf fun fr1 hf1 hT => ?_
 have hKp : _ ∧ _ ∧ _ ∧ _ ∧ _ ∧ _ := ⟨hT 1, hT 3, hT 5, hT 6, hT 7, hT 8⟩
 simp (decide := true) only [Fact.G, hf.size, reduceIte, s1, s3, s5, s6, s7] at hKp
 replace hf := hf1; clear hT hf1 s1 s3 s5 s6 s7 b75 b76 b77 b78 b79 b80 b81
 obtain ⟨s1, s3, s5, s6, s7, s8⟩ := hKp
 clear q2 hfin
 refine Fact.then_normal ?_
 exact ⟨hf, s1, s3, s5, s6, s7, s8, rfl⟩))
 · (
 clear hf s1 s3 s5 s6 s7
 rintro fr wq ⟨hf, s1, s3, s5, s6, s7, s8, hw⟩
 subst wq
 refine Fact.sq fun K28 hK28 => ?_
 refine Fact.sq fun K29 hK29 => ?_
 refine rg ?_
 refine fp fun K Z => ?_
 go_simp
 apply Z.out; clear Z K
 refine Fact.z hf fun fr1 hf1 hT => ?_
 have hKp : _ ∧ _ ∧ _ ∧ _ ∧ _ ∧ _ ∧ _ := ⟨hT 1, hT 3, hT 5, hT 6, hT 7, hT 8, hT 9⟩
 simp (decide := true) only [Fact.G, hf.size, reduceIte, s1, s3, s5, s6, s7, s8] at hKp
 replace hf := hf1; clear hT hf1 s1 s3 s5 s6 s7 s8
 obtain ⟨s1, s3, s5, s6, s7, s8, s9⟩ := hKp
 refine nx (hK29 _ _ ?_)
 refine wp_block ?_
 refine wp_loop_ghost (fun gk2 fr wr2 => ∃ (k : Nat), gk2 = s.arcs.length - k ∧ k ≤ s.arcs.length ∧ Fact.Fr 113 fr ∧ fr.tmps[1]? = some (.pointer (some ⟨w.heap.size, 0, none⟩)) ∧ fr.tmps[3]? = some (.int .i64 (ss.length - 1 : Nat)) ∧ fr.tmps[5]? = some (.slice (some ⟨g, 0, none⟩) ord.length co) ∧ fr.tmps[6]? = some (.int .i64 i) ∧ fr.tmps[7]? = some (.pointer (some ⟨wr.heap.size, 0, none⟩)) ∧ fr.tmps[8]? = some (.bool ((s.final && decide (s.out = 0)) || (s.arcs.take k).any fun a => decide (a.out = 0))) ∧ fr.tmps[9]? = some (.int .i64 k) ∧ wr2 = W5) (s.arcs.length) ?_ ?_
 · (
 exact ⟨0, rfl, Nat.zero_le _, hf, s1, s3, s5, s6, s7, by rw [s8]; simp, s9, rfl⟩)
 · (
 clear hf s1 s3 s5 s6 s7 s8 s9
 rintro gk2 fr wr2 ⟨k, hk2, hki, hf, s1, s3, s5, s6, s7, s8, s9, hw⟩
 subst wr2
 have HK2 := Lib.hid hk2; clear hk2
 refine Fact.sq fun K30 hK30 => ?_
 refine Fact.sq fun K31 hK31 => ?_
 refine rg ?_
 have b82 := hf.b 82
 have b83 := hf.b 83
 have b84 := hf.b 84
 have b85 := hf.b 85
 refine fp fun K Z => ?_
 go_simp
 apply Z.out; clear Z K
 refine fp fun K Z => ?_
 go_simp
 apply Z.out; clear Z K
 refine fp fun K Z => ?_
 go_simp
 apply Z.out; clear Z K
 refine fp fun K Z => ?_
 go_simp
 apply Z.out; clear Z K
 refine fp fun K Z => ?_
 go_simp
 apply Z.out; clear Z K
 refine Fact.z hf fun fr1 hf1 hT => ?_
 have hKp : _ ∧ _ ∧ _ ∧ _ ∧ _ ∧ _ ∧ _ ∧ _ := ⟨hT 1, hT 3, hT 5, hT 6, hT 7, hT 8, hT 9, hT 86⟩
 simp (decide := true) only [Fact.G, hf.size, reduceIte, s1, s3, s5, s6, s7, s8, s9] at hKp
 replace hf := hf1; clear hT hf1 s1 s3 s5 s6 s7 s8 s9 b82 b83 b84 b85
 obtain ⟨s1, s3, s5, s6, s7, s8, s9, s86⟩ := hKp
 refine nx (hK31 _ _ ?_)
 refine Fact.cond_s s86 (fun hq2 => ?_) (fun hq2 => ?_)
 · (
 have hklt : k < s.arcs.length := by have h9 := of_decide_eq_true hq2; omega
 clear hq2
 obtain ⟨a, hka⟩ : ∃ a, s.arcs[k]? = some a := ⟨_, List.getElem?_eq_getElem hklt⟩
 obtain ⟨b3, off3, rfl, hbl, -, u1, -⟩ := hra5.at' hka
 obtain ⟨z, hz⟩ : ∃ x, ((s.final && decide (s.out = 0)) || (s.arcs.take k).any fun a => decide (a.out = 0)) = x := ⟨_, rfl⟩
 rw [hz] at s8
 have hzs : ((s.final && decide (s.out = 0)) || (s.arcs.take (k + 1)).any fun a => decide (a.out = 0)) = (z || decide (a.out = 0)) := by rw [← hz, List.take_add_one, hka, List.any_append, ← Bool.or_assoc]; simp
 have HZS := Lib.hid hzs; clear hzs hz hka
 rcases hzv : z with _ | _
 · (
 have q4 := hzv
 rw [hzv] at s8
 have HZV := Lib.hid hzv; clear hzv q4
 refine wp_skip ?_
 refine nx (hK30 _ _ ?_)
 refine Fact.sq fun K32 hK32 => ?_
 refine wp_block ?_
 refine rg ?_
 have b89 := hf.b 89
 have b90 := hf.b 90
 have b91 := hf.b 91
 have b92 := hf.b 92
 have b93 := hf.b 93
 have b94 := hf.b 94
 have b95 := hf.b 95
 have b96 := hf.b 96
 have b97 := hf.b 97
 have b98 := hf.b 98
 refine fp fun K Z => ?_
 go_simp
 apply Z.out; clear Z K
 refine fp fun K Z => ?_
 go_simp
 apply Z.out; clear Z K
 refine og 1 90 false ?_ fun K Z => ?_
 · (
 simp (decide := true) only [Fact.G, reduceIte, hf.size])
 go_simp
 apply Z.out; clear Z K
 refine og 1 90 false ?_ fun K Z => ?_
 · (
 simp (decide := true) only [Fact.G, reduceIte, hf.size])
 go_simp
 apply Z.out; clear Z K
 refine og 1 90 false ?_ fun K Z => ?_
 · (
 simp (decide := true) only [Fact.G, reduceIte, hf.size])
 go_simp
 apply Z.out; clear Z K
 refine og 1 90 false ?_ fun K Z => ?_
 · (
 simp (decide := true) only [Fact.G, reduceIte, hf.size])
 go_simp
 try rw [if_pos (by omega)]
 apply Z.out; clear Z K
 refine og 1 90 false ?_ fun K Z => ?_
 · (
 simp (decide := true) only [Fact.G, reduceIte, hf.size])
 go_simp
 apply Z.out; clear Z K
 refine og 1 90 false ?_ fun K Z => ?_
 · (
 simp (decide := true) only [Fact.G, reduceIte, hf.size])
 go_simp
 apply Z.out; clear Z K
 refine og 1 90 false ?_ fun K Z => ?_
 · (
 simp (decide := true) only [Fact.G, reduceIte, hf.size])
 go_simp
 rw [show ((a.out : Int) == 0) = decide (a.out = 0) from beq_nat a.out 0]
 apply Z.out; clear Z K
 refine fp fun K Z => ?_
 go_simp
 apply Z.out; clear Z K
 refine fp fun K Z => ?_
 go_simp
 apply Z.out; clear Z K
 refine Fact.z hf fun fr1 hf1 hT => ?_
 have hKp : _ ∧ _ ∧ _ ∧ _ ∧ _ ∧ _ ∧ _ := ⟨hT 1, hT 3, hT 5, hT 6, hT 7, hT 8, hT 9⟩
 simp (decide := true) only [Fact.G, hf.size, reduceIte, s1, s3, s5, s6, s7, s9] at hKp
 replace hf := hf1; clear hT hf1 s1 s3 s5 s6 s7 s8 s9 s86 b89 b90 b91 b92 b93 b94 b95 b96 b97 b98
 obtain ⟨s1, s3, s5, s6, s7, s8, s9⟩ := hKp
 refine Fact.block_normal ?_
 refine nx (hK32 _ _ ?_)
 refine rg ?_
 have b87 := hf.b 87
 have b88 := hf.b 88
 refine fp fun K Z => ?_
 go_simp
 apply Z.out; clear Z K
 refine fp fun K Z => ?_
 go_simp
 try simp (disch := omega) only [Fact.W]
 apply Z.out; clear Z K
 refine fp fun K Z => ?_
 go_simp
 apply Z.out; clear Z K
 refine Fact.z hf fun fr1 hf1 hT => ?_
 have hKp : _ ∧ _ ∧ _ ∧ _ ∧ _ ∧ _ ∧ _ := ⟨hT 1, hT 3, hT 5, hT 6, hT 7, hT 8, hT 9⟩
 simp (decide := true) only [Fact.G, hf.size, reduceIte, s1, s3, s5, s6, s7, s8] at hKp
 replace hf := hf1; clear hT hf1 s1 s3 s5 s6 s7 s8 s9 b87 b88
 obtain ⟨s1, s3, s5, s6, s7, s8, s9⟩ := hKp
 refine Fact.then_normal ?_
 exact ⟨_, by have := HK2.out; omega, k + 1, rfl, by omega, hf, s1, s3, s5, s6, s7, by rw [s8, HZS.out, HZV.out]; simp, by rw [s9]; rfl, rfl⟩)
 · (
 have q4 := hzv
 rw [hzv] at s8
 have HZV := Lib.hid hzv; clear hzv q4
 refine wp_skip ?_
 refine nx (hK30 _ _ ?_)
 refine Fact.sq fun K33 hK33 => ?_
 refine wp_block ?_
 refine rg ?_
 have b89 := hf.b 89
 have b90 := hf.b 90
 have b91 := hf.b 91
 have b92 := hf.b 92
 have b93 := hf.b 93
 have b94 := hf.b 94
 have b95 := hf.b 95
 have b96 := hf.b 96
 have b97 := hf.b 97
 have b98 := hf.b 98
 refine fp fun K Z => ?_
 go_simp
 apply Z.out; clear Z K
 refine fp fun K Z => ?_
 go_simp
 apply Z.out; clear Z K
 refine sk 1 90 false ?_ ?_
 · (
 simp (decide := true) only [Fact.G, reduceIte, hf.size, Fact.N])
 refine sk 1 90 false ?_ ?_
 · (
 simp (decide := true) only [Fact.G, reduceIte, hf.size, Fact.N])
 refine sk 1 90 false ?_ ?_
 · (
 simp (decide := true) only [Fact.G, reduceIte, hf.size, Fact.N])
 refine sk 1 90 false ?_ ?_
 · (
 simp (decide := true) only [Fact.G, reduceIte, hf.size, Fact.N])
 refine sk 1 90 false ?_ ?_
 · (
 simp (decide := true) only [Fact.G, reduceIte, hf.size, Fact.N])
 refine sk 1 90 false ?_ ?_
 · (
 simp (decide := true) only [Fact.G, reduceIte, hf.size, Fact.N])
 refine sk 1 90 false ?_ ?_
 · (
 simp (decide := true) only [Fact.G, reduceIte, hf.size, Fact.N])
 refine fp fun K Z => ?_
 go_simp
 apply Z.out; clear Z K
 refine fp fun K Z => ?_
 go_simp
 apply Z.out; clear Z K
 refine Fact.z hf fun fr1 hf1 hT => ?_
 have hKp : _ ∧ _ ∧ _ ∧ _ ∧ _ ∧ _ ∧ _ := ⟨hT 1, hT 3, hT 5, hT 6, hT 7, hT 8, hT 9⟩
 simp (decide := true) only [Fact.G, hf.size, reduceIte, s1, s3, s5, s6, s7, s9] at hKp
 replace hf := hf1; clear hT hf1 s1 s3 s5 s6 s7 s8 s9 s86 b89 b90 b91 b92 b93 b94 b95 b96 b97 b98
 obtain ⟨s1, s3, s5, s6, s7, s8, s9⟩ := hKp
 refine Fact.block_normal ?_
 refine nx (hK33 _ _ ?_)
 refine rg ?_
 have b87 := hf.b 87
 have b88 := hf.b 88
 refine fp fun K Z => ?_
 go_simp
 apply Z.out; clear Z K
 refine fp fun K Z => ?_
 go_simp
 try simp (disch := omega) only [Fact.W]
 apply Z.out; clear Z K
 refine fp fun K Z => ?_
 go_simp
 apply Z.out; clear Z K
 refine Fact.z hf fun fr1 hf1 hT => ?_
 have hKp : _ ∧ _ ∧ _ ∧ _ ∧ _ ∧ _ ∧ _ := ⟨hT 1, hT 3, hT 5, hT 6, hT 7, hT 8, hT 9⟩
 simp (decide := true) only [Fact.G, hf.size, reduceIte, s1, s3, s5, s6, s7, s8] at hKp
 replace hf := hf1; clear hT hf1 s1 s3 s5 s6 s7 s8 s9 b87 b88
 obtain ⟨s1, s3, s5, s6, s7, s8, s9⟩ := hKp
 refine Fact.then_normal ?_
 exact ⟨_, by have := HK2.out; omega, k + 1, rfl, by omega, hf, s1, s3, s5, s6, s7, by rw [s8, HZS.out, HZV.out]; simp, by rw [s9]; rfl, rfl⟩))
 · (
 have hke : k = s.arcs.length := by have h9 := of_decide_eq_false hq2; omega
 have hzz : ((s.final && decide (s.out = 0)) || (s.arcs.take k).any fun a => decide (a.out = 0)) = zeroOf s := by rw [hke, List.take_length]; rfl
 rw [hzz] at s8
 clear hke hq2 hzz HK2 hki
 refine wp_exit ?_
 refine Fact.then_exit ?_
 refine Fact.then_exit ?_
 refine Fact.block_exit ?_
 refine nx (hK28 _ _ ?_)
 refine Fact.sq fun K34 hK34 => ?_
 refine Fact.sq fun K35 hK35 => ?_
 refine rg ?_
 have b99 := hf.b 99
 refine fp fun K Z => ?_
 go_simp
 apply Z.out; clear Z K
 refine fp fun K Z => ?_
 go_simp
 apply Z.out; clear Z K
 refine Fact.z hf fun fr1 hf1 hT => ?_
 have hKp : _ ∧ _ ∧ _ ∧ _ ∧ _ ∧ _ := ⟨hT 1, hT 3, hT 5, hT 6, hT 7, hT 100⟩
 simp (decide := true) only [Fact.G, hf.size, reduceIte, s1, s3, s5, s6, s7] at hKp
 replace hf := hf1; clear hT hf1 s1 s3 s5 s6 s7 s8 s9 s86 b99
 obtain ⟨s1, s3, s5, s6, s7, s100⟩ := hKp
 refine nx (hK35 _ _ ?_)
 refine Fact.cond_s s100 (fun hq3 => ?_) (fun hq3 => ?_)
 · (
 have hzf : zeroOf s = false := by simpa using hq3
 clear hq3
 have hbad : refRight ss init = false := by rw [HRR3.out, HAG.out, HGS.out]; rw [HG1.out]; rw [hzf]; rfl
 have HBAD := Lib.hid hbad; clear hbad
 refine Fact.sq fun K36 hK36 => ?_
 refine rg ?_
 refine fp fun K Z => ?_
 go_simp
 apply Z.out; clear Z K
 refine Fact.z hf fun fr1 hf1 hT => ?_
 have hKp := hT 2
 simp (decide := true) only [Fact.G, hf.size, reduceIte] at hKp
 replace hf := hf1; clear hT hf1 s1 s3 s5 s6 s7 s100
 have s2 := hKp; clear hKp
 refine nx (hK36 _ _ ?_)
 refine wp_ret ?_
 refine Fact.then_ret ?_
 refine Fact.block_ret ?_
 refine Fact.then_ret ?_
 refine Fact.then_ret ?_
 refine Fact.block_ret ?_
 refine Fact.then_ret ?_
 exact Fact.ret1 rfl hf s2 ⟨by rw [HBAD.out], hbz⟩)
 · (
 have hzf : zeroOf s = true := by simpa using hq3
 clear hq3
 have hg2 : refGood ss ord i s = decide (s ∉ ss.take i) := by rw [HG1.out, hzf]; rfl
 have HG2 := Lib.hid hg2; clear hg2 hzf
 refine wp_skip ?_
 refine nx (hK34 _ _ ?_)
 refine Fact.sq fun K37 hK37 => ?_
 refine rg ?_
 refine fp fun K Z => ?_
 go_simp
 apply Z.out; clear Z K
 refine Fact.z hf fun fr1 hf1 hT => ?_
 have hKp : _ ∧ _ ∧ _ ∧ _ ∧ _ ∧ _ := ⟨hT 1, hT 3, hT 5, hT 6, hT 7, hT 10⟩
 simp (decide := true) only [Fact.G, hf.size, reduceIte, s1, s3, s5, s6, s7] at hKp
 replace hf := hf1; clear hT hf1 s1 s3 s5 s6 s7 s100
 obtain ⟨s1, s3, s5, s6, s7, s10⟩ := hKp
 refine nx (hK37 _ _ ?_)
 refine wp_block ?_
 refine wp_loop_ghost (fun gk3 fr wr3 => ∃ (k : Nat), gk3 = i - k ∧ k ≤ i ∧ Fact.Fr 113 fr ∧ fr.tmps[1]? = some (.pointer (some ⟨w.heap.size, 0, none⟩)) ∧ fr.tmps[3]? = some (.int .i64 (ss.length - 1 : Nat)) ∧ fr.tmps[5]? = some (.slice (some ⟨g, 0, none⟩) ord.length co) ∧ fr.tmps[6]? = some (.int .i64 i) ∧ fr.tmps[7]? = some (.pointer (some ⟨wr.heap.size, 0, none⟩)) ∧ fr.tmps[10]? = some (.int .i64 k) ∧ s ∉ ss.take k ∧ Below W5.heap.size W5 wr3) (i) ?_ ?_
 · (
 exact ⟨0, rfl, Nat.zero_le _, hf, s1, s3, s5, s6, s7, s10, by simp, Below.refl _ _⟩)
 · (
 clear hf s1 s3 s5 s6 s7 s10
 rintro gk3 fr wr3 ⟨k, hk3, hki, hf, s1, s3, s5, s6, s7, s10, hn, hb6⟩
 have HK3 := Lib.hid hk3; have HN := Lib.hid hn; clear hk3 hn
 replace x0 := cL hb6 x0; replace x1 := cL hb6 x1; replace x2 := cL hb6 x2; replace e0 := cL hb6 e0
 have hr6 := hr5.later hb6
 have hra6 := hra5.later hb6
 refine Fact.sq fun K38 hK38 => ?_
 refine Fact.sq fun K39 hK39 => ?_
 refine rg ?_
 have b101 := hf.b 101
 have b102 := hf.b 102
 refine fp fun K Z => ?_
 go_simp
 apply Z.out; clear Z K
 refine fp fun K Z => ?_
 go_simp
 apply Z.out; clear Z K
 refine fp fun K Z => ?_
 go_simp
 apply Z.out; clear Z K
 refine Fact.z hf fun fr1 hf1 hT => ?_
 have hKp : _ ∧ _ ∧ _ ∧ _ ∧ _ ∧ _ ∧ _ := ⟨hT 1, hT 3, hT 5, hT 6, hT 7, hT 10, hT 103⟩
 simp (decide := true) only [Fact.G, hf.size, reduceIte, s1, s3, s5, s6, s7, s10] at hKp
 replace hf := hf1; clear hT hf1 s1 s3 s5 s6 s7 s10 b101 b102
 obtain ⟨s1, s3, s5, s6, s7, s10, s103⟩ := hKp
 refine nx (hK39 _ _ ?_)
 refine Fact.cond_s s103 (fun hq4 => ?_) (fun hq4 => ?_)
 · (
 have hklt : k < i := by have h9 := of_decide_eq_true hq4; omega
 clear hq4
 obtain ⟨t, hkt⟩ : ∃ t, ss[k]? = some t := ⟨_, List.getElem?_eq_getElem (by omega)⟩
 obtain ⟨b7, off7, av7, he7, hat7⟩ := hr6.at_ hkt
 injection he7 with he7
 injection he7 with he7 he8 _
 subst he7; subst he8
 have d0 := hat7.c0; have d1 := hat7.c1; have d2 := hat7.c2
 have hrt := hat7.arcs
 obtain ⟨A7, c7, rfl, _⟩ := hrt.form
 have hlt7 := (HO.out t (List.mem_of_getElem? hkt)).2.1
 have hnt : s ≠ t → s ∉ ss.take (k + 1) := fun hne => by rw [List.take_add_one, hkt]; simp only [Option.toList_some, List.mem_append, List.mem_singleton]; rintro (h | h); exact HN.out h; exact hne h
 have hit : s = t → s ∈ ss.take i := fun e => by subst e; exact List.mem_iff_getElem?.2 ⟨k, by rw [List.getElem?_take, if_pos hklt, hkt]⟩
 have HNT := Lib.hid hnt; have HIT := Lib.hid hit; clear hnt hit hkt hat7
 refine wp_skip ?_
 refine nx (hK38 _ _ ?_)
 refine Fact.sq fun K40 hK40 => ?_
 refine wp_block ?_
 refine Fact.sq fun K41 hK41 => ?_
 refine Stab.tb 113 fun hok => ?_
 apply Stab.tq 0 _ hf hok
 · (
 intro fr1 w1 hh hd hk K Z
 have s7 := Stab.O hh s7
 clear hd
 replace x0 := cL hh.ext x0
 replace x1 := cL hh.ext x1
 replace x2 := cL hh.ext x2
 replace e0 := cL hh.ext e0
 replace d0 := cL hh.ext d0
 replace d1 := cL hh.ext d1
 replace d2 := cL hh.ext d2
 replace hra6 := hra6.later hh.ext
 replace hrt := hrt.later hh.ext
 go_simp
 exact Stab.k Z)
 apply Stab.tq 1 _ hf hok
 · (
 intro fr1 w1 hh hd hk K Z
 have s1 := Stab.O hh s1
 clear hd
 go_simp
 exact Stab.k Z)
 apply Stab.tq 2 _ hf hok
 · (
 intro fr1 w1 hh hd hk K Z
 have s107 := Stab.v 1 0 hd hk []
 clear hd
 replace x0 := cL hh.ext x0
 replace x1 := cL hh.ext x1
 replace x2 := cL hh.ext x2
 replace e0 := cL hh.ext e0
 replace d0 := cL hh.ext d0
 replace d1 := cL hh.ext d1
 replace d2 := cL hh.ext d2
 replace hra6 := hra6.later hh.ext
 replace hrt := hrt.later hh.ext
 go_simp
 exact Stab.k Z)
 refine Stab.mO 3 s10 hf hok ?_
 apply Stab.tq 4 _ hf hok
 · (
 intro fr1 w1 hh hd hk K Z
 have s108 := Stab.v 2 1 hd hk []
 have s109 := Stab.v 3 0 hd hk []
 clear hd
 go_simp
 try rw [if_pos (by omega)]
 exact Stab.k Z)
 apply Stab.tq 5 _ hf hok
 · (
 intro fr1 w1 hh hd hk K Z
 have s110 := Stab.v 4 0 hd hk []
 clear hd
 replace x0 := cL hh.ext x0
 replace x1 := cL hh.ext x1
 replace x2 := cL hh.ext x2
 replace e0 := cL hh.ext e0
 replace d0 := cL hh.ext d0
 replace d1 := cL hh.ext d1
 replace d2 := cL hh.ext d2
 replace hra6 := hra6.later hh.ext
 replace hrt := hrt.later hh.ext
 go_simp
 exact Stab.k Z)
 apply Stab.tq 6 _ hf hok
 · (
 intro fr1 w1 hh hd hk K Z
 have s106 := Stab.v 0 5 hd hk []
 have s111 := Stab.v 5 0 hd hk []
 clear hd
 replace x0 := cL hh.ext x0
 replace x1 := cL hh.ext x1
 replace x2 := cL hh.ext x2
 replace e0 := cL hh.ext e0
 replace d0 := cL hh.ext d0
 replace d1 := cL hh.ext d1
 replace d2 := cL hh.ext d2
 replace hra6 := hra6.later hh.ext
 replace hrt := hrt.later hh.ext
 go_simp
 go_at_call 41; refine (alike w1 s t _ _ hra6 hrt (by omega) (by omega)).mono ?_; rintro e w2 ⟨rfl, hb⟩
 exact Z.out _ rfl _ _ hb rfl)
 refine Stab.tf hf hok fun fr1 w1 hh hg => ?_
 replace s1 := Stab.O hh s1
 replace s3 := Stab.O hh s3
 replace s5 := Stab.O hh s5
 replace s6 := Stab.O hh s6
 replace s7 := Stab.O hh s7
 replace s10 := Stab.O hh s10
 have s112 := Stab.f 6 0 hg
 have hf1 := hh.fr hf
 have hx := hh.ext
 replace x0 := cL hx x0
 replace x1 := cL hx x1
 replace x2 := cL hx x2
 replace e0 := cL hx e0
 replace d0 := cL hx d0
 replace d1 := cL hx d1
 replace d2 := cL hx d2
 replace hra6 := hra6.later hx
 replace hrt := hrt.later hx
 clear hg hh hf hok s103
 have hf := hf1; clear hf1
 refine nx (hK41 _ _ ?_)
 refine Fact.cond_s s112 (fun hq5 => ?_) (fun hq5 => ?_)
 · (
 have hb7 := hb6.trans (hx.mono hb6.size)
 have hst := HIT.out (of_decide_eq_true hq5)
 clear hq5
 have hbad : refRight ss init = false := by rw [HRR3.out, HAG.out, HGS.out]; rw [HG2.out]; rw [decide_eq_false (fun h => h hst)]; rfl
 have HBAD := Lib.hid hbad; clear hbad
 refine Fact.sq fun K42 hK42 => ?_
 refine rg ?_
 refine fp fun K Z => ?_
 go_simp
 apply Z.out; clear Z K
 refine Fact.z hf fun fr1 hf1 hT => ?_
 have hKp := hT 2
 simp (decide := true) only [Fact.G, hf.size, reduceIte] at hKp
 replace hf := hf1; clear hT hf1 s1 s3 s5 s6 s7 s10 s112
 have s2 := hKp; clear hKp
 refine nx (hK42 _ _ ?_)
 refine wp_ret ?_
 refine Fact.block_ret ?_
 refine Fact.then_ret ?_
 refine Fact.then_ret ?_
 refine Fact.block_ret ?_
 refine Fact.block_ret ?_
 refine Fact.then_ret ?_
 refine Fact.then_ret ?_
 refine Fact.block_ret ?_
 refine Fact.then_ret ?_
 exact Fact.ret1 rfl hf s2 ⟨by rw [HBAD.out], hbz.trans (hb7.mono (by have := hbz.size; omega))⟩)
 · (
 have hb7 := hb6.trans (hx.mono hb6.size)
 have hn2 := HNT.out (of_decide_eq_false hq5)
 have HN2 := Lib.hid hn2; clear hn2 hq5
 refine wp_skip ?_
 refine Fact.block_normal ?_
 refine nx (hK40 _ _ ?_)
 refine rg ?_
 have b104 := hf.b 104
 have b105 := hf.b 105
 refine fp fun K Z => ?_
 go_simp
 apply Z.out; clear Z K
 refine fp fun K Z => ?_
 go_simp
 try simp (disch := omega) only [Fact.W]
 apply Z.out; clear Z K
 refine fp fun K Z => ?_
 go_simp
 apply Z.out; clear Z K
 refine Fact.z hf fun fr1 hf1 hT => ?_
 have hKp : _ ∧ _ ∧ _ ∧ _ ∧ _ ∧ _ := ⟨hT 1, hT 3, hT 5, hT 6, hT 7, hT 10⟩
 simp (decide := true) only [Fact.G, hf.size, reduceIte, s1, s3, s5, s6, s7] at hKp
 replace hf := hf1; clear hT hf1 s1 s3 s5 s6 s7 s10 s112 b104 b105
 obtain ⟨s1, s3, s5, s6, s7, s10⟩ := hKp
 refine Fact.then_normal ?_
 exact ⟨_, by have := HK3.out; omega, k + 1, rfl, by omega, hf, s1, s3, s5, s6, s7, by rw [s10]; rfl, HN2.out, hb7⟩))
 · (
 have hke : k = i := by have h9 := of_decide_eq_false hq4; omega
 have hg3 : refGood ss ord i s = true := by rw [HG2.out]; exact decide_eq_true (by have := HN.out; rwa [hke] at this)
 have HG3 := Lib.hid hg3; clear hg3 hke hq4
 have hbr := hb.trans ((hb5.trans (hb6.mono hb5.size)).mono hb.size)
 refine wp_exit ?_
 refine Fact.then_exit ?_
 refine Fact.then_exit ?_
 refine Fact.block_exit ?_
 refine Fact.block_normal ?_
 refine nx (hK20 _ _ ?_)
 refine rg ?_
 have b51 := hf.b 51
 have b52 := hf.b 52
 refine fp fun K Z => ?_
 go_simp
 apply Z.out; clear Z K
 refine fp fun K Z => ?_
 go_simp
 try simp (disch := omega) only [Fact.W]
 apply Z.out; clear Z K
 refine fp fun K Z => ?_
 go_simp
 apply Z.out; clear Z K
 refine Fact.z hf fun fr1 hf1 hT => ?_
 have hKp : _ ∧ _ ∧ _ ∧ _ := ⟨hT 1, hT 3, hT 5, hT 6⟩
 simp (decide := true) only [Fact.G, hf.size, reduceIte, s1, s3, s5] at hKp
 replace hf := hf1; clear hT hf1 s1 s3 s5 s6 s7 s10 s103 b51 b52
 obtain ⟨s1, s3, s5, s6⟩ := hKp
 refine Fact.then_normal ?_
 exact ⟨_, by have := HK.out; omega, i + 1, rfl, by omega, hf, s1, s3, s5, by rw [s6]; rfl, by rw [HAG.out, HGS.out, HG3.out]; rfl, hbr⟩))))))))
 · (
 have hie : i = ss.length := by have h9 := of_decide_eq_false hq; omega
 have HIE := Lib.hid hie; clear hie hq
 refine wp_exit ?_
 refine Fact.then_exit ?_
 refine Fact.then_exit ?_
 refine Fact.block_exit ?_
 refine nx (hK16 _ _ ?_)
 refine Fact.sq fun K43 hK43 => ?_
 refine rg ?_
 refine fp fun K Z => ?_
 go_simp
 apply Z.out; clear Z K
 refine Fact.z hf fun fr1 hf1 hT => ?_
 have hKp := hT 2
 simp (decide := true) only [Fact.G, hf.size, reduceIte] at hKp
 replace hf := hf1; clear hT hf1 s1 s3 s5 s6 s50
 have s2 := hKp; clear hKp
 refine nx (hK43 _ _ ?_)
 refine wp_ret ?_
 refine Fact.ret1 rfl hf s2 ⟨?_, hbw3.trans (hb.mono (Nat.le_of_lt hzw3))⟩
 rw [HRR3.out, HAG.out, HIE.out, List.drop_length]; rfl)))))
end Dw
end Go.Proofs.YtgjfhedgdbbinaaDoor
