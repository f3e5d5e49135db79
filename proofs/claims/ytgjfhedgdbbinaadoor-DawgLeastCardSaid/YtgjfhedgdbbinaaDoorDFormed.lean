/- Dawg: Size, formed. -/
import Derived.Test.YtgjfhedgdbbinaaDoorDBuild0
import Derived.Test.YtgjfhedgdbbinaaDoorDLaw
import Derived.Test.YtgjfhedgdbbinaaDoorTools
namespace Go.Proofs.YtgjfhedgdbbinaaDoor
open Go.RowKit
set_option linter.unusedSimpArgs false
set_option linter.unusedVariables false
set_option linter.unnecessarySimpa false
namespace Dw

theorem arc_cases (t i b l : Int) : t < 0 ∨ (0 ≤ t ∧ i ≤ t) ∨ (0 ≤ t ∧ t < i ∧ b ≤ l) ∨ (0 ≤ t ∧ t < i ∧ l < b) := by omega
theorem arcCount_le {ss : List State} (h : ∀ s ∈ ss, s.arcs.length ≤ 1000) (i : Nat) : arcCount (ss.take i) ≤ 1000 * ss.length := by
  have key : ∀ l : List State, (∀ s ∈ l, s.arcs.length ≤ 1000) → arcCount l ≤ 1000 * l.length := fun l => by
    induction l with
    | nil => intro _; simp [arcCount]
    | cons s l ih =>
      intro hl
      have h1 := hl s (List.mem_cons_self ..)
      have h2 := ih fun x hx => hl x (List.mem_cons_of_mem _ hx)
      simp only [arcCount, List.map_cons, List.sum_cons, List.length_cons] at h2 ⊢
      omega
  have := key (ss.take i) (fun s hs => h s (List.mem_of_mem_take hs))
  have h2 : (ss.take i).length ≤ ss.length := by simp; omega
  omega
set_option maxHeartbeats 4000000 in
set_option maxRecDepth 100000 in
theorem size22 (w : World) (sv : Value) (init : Nat) (ss : List State) (hrs : RS w sv ss) (hok : ∀ s ∈ ss, okS s) (hlen : ss.length ≤ 1000000) (hfew : ∀ s ∈ ss, s.arcs.length ≤ 1000) : Calls Tryd.prog 22 #[.agg #[sv, .int .u64 init]] w fun e w1 => e = .returned (.tuple #[.int .i64 ss.length, .int .i64 (arcCount ss : Nat)]) ∧ Below w.heap.size w w1 := by
 refine calls_of_wp Tryd.func22 rfl ?_
 refine Fact.en 23 fun fr hf hT => ?_
 have s0 := hT 0 _ rfl
 clear hT
 obtain ⟨A, cc, rfl, hcc⟩ := hrs.form
 have HO := Lib.hid hok; have HF := Lib.hid hfew; clear hok hfew
 refine Fact.sq fun K1 hK1 => ?_
 refine rg ?_
 refine fp fun K Z => ?_
 go_simp
 apply Z.out; clear Z K
 refine fp fun K Z => ?_
 go_simp
 apply Z.out; clear Z K
 refine fp fun K Z => ?_
 go_simp
 apply Z.out; clear Z K
 refine Fact.z hf fun fr1 hf1 hT => ?_
 have hKp : _ ∧ _ := ⟨hT 1, hT 3⟩
 simp (decide := true) only [Fact.G, hf.size, reduceIte] at hKp
 replace hf := hf1; clear hT hf1 s0
 obtain ⟨s1, s3⟩ := hKp
 obtain ⟨W0, hW0⟩ : ∃ W0, w.alloc (.cells #[.slice A ss.length cc, .int .u64 init] 33) = W0 := ⟨_, rfl⟩
 try rw [hW0]
 obtain ⟨hb0, c0, c1, -, -⟩ := box2 hW0
 clear hW0
 have hr0 := hrs.later hb0
 clear hrs
 refine nx (hK1 _ _ ?_)
 refine Fact.sq fun K2 hK2 => ?_
 refine Fact.sq fun K3 hK3 => ?_
 refine rg ?_
 have b6 := hf.b 6
 have b7 := hf.b 7
 refine fp fun K Z => ?_
 go_simp
 apply Z.out; clear Z K
 refine fp fun K Z => ?_
 go_simp
 apply Z.out; clear Z K
 refine fp fun K Z => ?_
 go_simp
 apply Z.out; clear Z K
 refine fp fun K Z => ?_
 go_simp
 apply Z.out; clear Z K
 refine Fact.z hf fun fr1 hf1 hT => ?_
 have hKp : _ ∧ _ ∧ _ ∧ _ ∧ _ := ⟨hT 1, hT 3, hT 7, hT 8, hT 9⟩
 simp (decide := true) only [Fact.G, hf.size, reduceIte, s1, s3] at hKp
 replace hf := hf1; clear hT hf1 s1 s3 b6 b7
 obtain ⟨s1, s3, s7, s8, s9⟩ := hKp
 refine nx (hK3 _ _ ?_)
 refine wp_block ?_
 refine wp_loop_ghost (fun gk fr wr => ∃ (i : Nat), gk = ss.length - i ∧ i ≤ ss.length ∧ Fact.Fr 23 fr ∧ fr.tmps[1]? = some (.pointer (some ⟨w.heap.size, 0, none⟩)) ∧ fr.tmps[3]? = some (.int .i64 (arcCount (ss.take i) : Nat)) ∧ fr.tmps[7]? = some (.slice A ss.length cc) ∧ fr.tmps[8]? = some (.int .i64 ss.length) ∧ fr.tmps[9]? = some (.int .i64 i) ∧ Below W0.heap.size W0 wr) (ss.length) ?_ ?_
 · (
 exact ⟨0, rfl, Nat.zero_le _, hf, s1, s3, s7, s8, s9, Below.refl _ _⟩)
 · (
 clear hf s1 s3 s7 s8 s9
 rintro gk fr wr ⟨i, hk, hi, hf, s1, s3, s7, s8, s9, hb⟩
 have HK := Lib.hid hk; clear hk
 refine Fact.sq fun K4 hK4 => ?_
 refine rg ?_
 refine fp fun K Z => ?_
 go_simp
 apply Z.out; clear Z K
 refine Fact.z hf fun fr1 hf1 hT => ?_
 have hKp : _ ∧ _ ∧ _ ∧ _ ∧ _ ∧ _ := ⟨hT 1, hT 3, hT 7, hT 8, hT 9, hT 10⟩
 simp (decide := true) only [Fact.G, hf.size, reduceIte, s1, s3, s7, s8, s9] at hKp
 replace hf := hf1; clear hT hf1 s1 s3 s7 s8 s9
 obtain ⟨s1, s3, s7, s8, s9, s10⟩ := hKp
 refine nx (hK4 _ _ ?_)
 refine Fact.sq fun K5 hK5 => ?_
 refine Fact.cond_s s10 (fun hq => ?_) (fun hq => ?_)
 · (
 have hlt : i < ss.length := by have h9 := of_decide_eq_true hq; omega
 have HQ := Lib.hid hq; clear hq
 obtain ⟨s, his⟩ : ∃ s, ss[i]? = some s := ⟨_, List.getElem?_eq_getElem hlt⟩
 obtain ⟨b, off, av, rfl, hat⟩ := (hr0.later hb).at_ his
 have d0 := hat.c0; have d1 := hat.c1; have d2 := hat.c2
 obtain ⟨A2, c2, rfl, _⟩ := hat.arcs.form
 have hal := HF.out s (List.mem_of_getElem? his)
 have hst := arcCount_step his
 have hac := arcCount_le HF.out i
 have HS := Lib.hid his; have HST := Lib.hid hst; clear his hst hat
 refine wp_skip ?_
 refine nx (hK5 _ _ ?_)
 refine Fact.sq fun K6 hK6 => ?_
 refine wp_block ?_
 refine Fact.sq fun K7 hK7 => ?_
 refine rg ?_
 have b11 := hf.b 11
 have b12 := hf.b 12
 have b5 := hf.b 5
 refine fp fun K Z => ?_
 go_simp
 try rw [if_pos (by omega)]
 apply Z.out; clear Z K
 refine fp fun K Z => ?_
 go_simp
 apply Z.out; clear Z K
 refine fp fun K Z => ?_
 go_simp
 apply Z.out; clear Z K
 refine fp fun K Z => ?_
 go_simp
 apply Z.out; clear Z K
 refine Fact.z hf fun fr1 hf1 hT => ?_
 have hKp : _ ∧ _ ∧ _ ∧ _ ∧ _ ∧ _ := ⟨hT 1, hT 3, hT 5, hT 7, hT 8, hT 9⟩
 simp (decide := true) only [Fact.G, hf.size, reduceIte, s1, s3, s7, s8, s9] at hKp
 replace hf := hf1; clear hT hf1 s1 s3 s7 s8 s9 s10 b11 b12 b5
 obtain ⟨s1, s3, s5, s7, s8, s9⟩ := hKp
 obtain ⟨W5, hW5⟩ : ∃ W0, wr.alloc (.cells #[.slice A2 s.arcs.length c2, .bool s.final, .int .u64 s.out] 61) = W0 := ⟨_, rfl⟩
 try rw [hW5]
 obtain ⟨hb5, x0, -, -, -, -⟩ := box3 hW5
 clear hW5
 clear d0 d1 d2
 refine nx (hK7 _ _ ?_)
 refine rg ?_
 have b13 := hf.b 13
 have b14 := hf.b 14
 have b15 := hf.b 15
 have b16 := hf.b 16
 have b17 := hf.b 17
 refine fp fun K Z => ?_
 go_simp
 apply Z.out; clear Z K
 refine fp fun K Z => ?_
 go_simp
 apply Z.out; clear Z K
 refine fp fun K Z => ?_
 go_simp
 apply Z.out; clear Z K
 refine fp fun K Z => ?_
 go_simp
 apply Z.out; clear Z K
 refine fp fun K Z => ?_
 go_simp
 try simp (disch := omega) only [Fact.W]
 rw [show ((arcCount (ss.take i) : Nat) : Int) + (s.arcs.length : Int) = ((arcCount (ss.take (i + 1)) : Nat) : Int) by rw [HST.out]; omega]
 apply Z.out; clear Z K
 refine fp fun K Z => ?_
 go_simp
 apply Z.out; clear Z K
 refine Fact.z hf fun fr1 hf1 hT => ?_
 have hKp : _ ∧ _ ∧ _ ∧ _ ∧ _ := ⟨hT 1, hT 3, hT 7, hT 8, hT 9⟩
 simp (decide := true) only [Fact.G, hf.size, reduceIte, s1, s7, s8, s9] at hKp
 replace hf := hf1; clear hT hf1 s1 s3 s5 s7 s8 s9 b13 b14 b15 b16 b17
 obtain ⟨s1, s3, s7, s8, s9⟩ := hKp
 refine Fact.block_normal ?_
 refine nx (hK6 _ _ ?_)
 refine rg ?_
 have b18 := hf.b 18
 refine fp fun K Z => ?_
 go_simp
 try simp (disch := omega) only [Fact.W]
 apply Z.out; clear Z K
 refine fp fun K Z => ?_
 go_simp
 apply Z.out; clear Z K
 refine Fact.z hf fun fr1 hf1 hT => ?_
 have hKp : _ ∧ _ ∧ _ ∧ _ ∧ _ := ⟨hT 1, hT 3, hT 7, hT 8, hT 9⟩
 simp (decide := true) only [Fact.G, hf.size, reduceIte, s1, s3, s7, s8] at hKp
 replace hf := hf1; clear hT hf1 s1 s3 s7 s8 s9 b18
 obtain ⟨s1, s3, s7, s8, s9⟩ := hKp
 refine Fact.then_normal ?_
 exact ⟨_, by have := HK.out; omega, i + 1, rfl, by omega, hf, s1, s3, s7, s8, by rw [s9]; rfl, hb.trans (hb5.mono hb.size)⟩)
 · (
 have hie : i = ss.length := by have h9 := of_decide_eq_false hq; omega
 have HIE := Lib.hid hie; clear hie hq
 have e0 := cL hb c0
 refine wp_exit ?_
 refine Fact.then_exit ?_
 refine Fact.then_exit ?_
 refine Fact.block_exit ?_
 refine nx (hK2 _ _ ?_)
 refine Fact.sq fun K8 hK8 => ?_
 refine rg ?_
 have b19 := hf.b 19
 have b20 := hf.b 20
 have b21 := hf.b 21
 have b22 := hf.b 22
 refine fp fun K Z => ?_
 go_simp
 apply Z.out; clear Z K
 refine fp fun K Z => ?_
 go_simp
 apply Z.out; clear Z K
 refine fp fun K Z => ?_
 go_simp
 apply Z.out; clear Z K
 refine fp fun K Z => ?_
 go_simp
 apply Z.out; clear Z K
 refine fp fun K Z => ?_
 go_simp
 apply Z.out; clear Z K
 refine fp fun K Z => ?_
 go_simp
 apply Z.out; clear Z K
 refine Fact.z hf fun fr1 hf1 hT => ?_
 have hKp : _ ∧ _ := ⟨hT 2, hT 3⟩
 simp (decide := true) only [Fact.G, hf.size, reduceIte] at hKp
 replace hf := hf1; clear hT hf1 s1 s3 s7 s8 s9 s10 b19 b20 b21 b22
 obtain ⟨s2, s3⟩ := hKp
 refine nx (hK8 _ _ ?_)
 refine wp_ret ?_
 refine Fact.ret2 rfl hf s2 s3 ⟨?_, hb0.trans (hb.mono hb0.size)⟩
 rw [HIE.out, List.take_length]))
set_option maxHeartbeats 4000000 in
set_option maxRecDepth 100000 in
theorem formed32 (w : World) (sv : Value) (init : Nat) (ss : List State) (hrs : RS w sv ss) (hok : ∀ s ∈ ss, okS s) (hlen : ss.length ≤ 1000000) : Calls Tryd.prog 32 #[.agg #[sv, .int .u64 init]] w fun e w1 => e = .returned (.bool (formedF ss)) ∧ Below w.heap.size w w1 := by
 refine calls_of_wp Tryd.func32 rfl ?_
 refine Fact.en 56 fun fr hf hT => ?_
 have s0 := hT 0 _ rfl
 clear hT
 obtain ⟨A, cc, rfl, hcc⟩ := hrs.form
 have HO := Lib.hid hok; clear hok
 refine Fact.sq fun K1 hK1 => ?_
 refine rg ?_
 refine fp fun K Z => ?_
 go_simp
 apply Z.out; clear Z K
 refine fp fun K Z => ?_
 go_simp
 apply Z.out; clear Z K
 refine Fact.z hf fun fr1 hf1 hT => ?_
 have hKp := hT 1
 simp (decide := true) only [Fact.G, hf.size, reduceIte] at hKp
 replace hf := hf1; clear hT hf1 s0
 have s1 := hKp; clear hKp
 obtain ⟨W0, hW0⟩ : ∃ W0, w.alloc (.cells #[.slice A ss.length cc, .int .u64 init] 33) = W0 := ⟨_, rfl⟩
 try rw [hW0]
 obtain ⟨hb0, c0, c1, -, -⟩ := box2 hW0
 clear hW0
 have hr0 := hrs.later hb0
 clear hrs
 refine nx (hK1 _ _ ?_)
 refine Fact.sq fun K2 hK2 => ?_
 refine Fact.sq fun K3 hK3 => ?_
 refine rg ?_
 have b8 := hf.b 8
 have b9 := hf.b 9
 refine fp fun K Z => ?_
 go_simp
 apply Z.out; clear Z K
 refine fp fun K Z => ?_
 go_simp
 apply Z.out; clear Z K
 refine fp fun K Z => ?_
 go_simp
 apply Z.out; clear Z K
 refine fp fun K Z => ?_
 go_simp
 apply Z.out; clear Z K
 refine Fact.z hf fun fr1 hf1 hT => ?_
 have hKp : _ ∧ _ ∧ _ ∧ _ := ⟨hT 1, hT 9, hT 10, hT 11⟩
 simp (decide := true) only [Fact.G, hf.size, reduceIte, s1] at hKp
 replace hf := hf1; clear hT hf1 s1 b8 b9
 obtain ⟨s1, s9, s10, s11⟩ := hKp
 refine nx (hK3 _ _ ?_)
 refine wp_block ?_
 refine wp_loop_ghost (fun gk fr wr => ∃ (i : Nat), gk = ss.length - i ∧ i ≤ ss.length ∧ Fact.Fr 56 fr ∧ fr.tmps[1]? = some (.pointer (some ⟨w.heap.size, 0, none⟩)) ∧ fr.tmps[9]? = some (.slice A ss.length cc) ∧ fr.tmps[10]? = some (.int .i64 ss.length) ∧ fr.tmps[11]? = some (.int .i64 i) ∧ formedL 0 ss = formedL i (ss.drop i) ∧ Below W0.heap.size W0 wr) (ss.length) ?_ ?_
 · (
 exact ⟨0, rfl, Nat.zero_le _, hf, s1, s9, s10, s11, rfl, Below.refl _ _⟩)
 · (
 clear hf s1 s9 s10 s11
 rintro gk fr wr ⟨i, hk, hi, hf, s1, s9, s10, s11, hfm, hb⟩
 have HK := Lib.hid hk; have HM := Lib.hid hfm; clear hk hfm
 refine Fact.sq fun K4 hK4 => ?_
 refine rg ?_
 refine fp fun K Z => ?_
 go_simp
 apply Z.out; clear Z K
 refine Fact.z hf fun fr1 hf1 hT => ?_
 have hKp : _ ∧ _ ∧ _ ∧ _ ∧ _ := ⟨hT 1, hT 9, hT 10, hT 11, hT 12⟩
 simp (decide := true) only [Fact.G, hf.size, reduceIte, s1, s9, s10, s11] at hKp
 replace hf := hf1; clear hT hf1 s1 s9 s10 s11
 obtain ⟨s1, s9, s10, s11, s12⟩ := hKp
 refine nx (hK4 _ _ ?_)
 refine Fact.sq fun K5 hK5 => ?_
 refine Fact.cond_s s12 (fun hq => ?_) (fun hq => ?_)
 · (
 have hlt : i < ss.length := by have h9 := of_decide_eq_true hq; omega
 have HQ := Lib.hid hq; clear hq
 obtain ⟨s, his⟩ : ∃ s, ss[i]? = some s := ⟨_, List.getElem?_eq_getElem hlt⟩
 obtain ⟨b, off, av, rfl, hat⟩ := (hr0.later hb).at_ his
 have d0 := hat.c0; have d1 := hat.c1; have d2 := hat.c2
 have hra := hat.arcs
 obtain ⟨A2, c2, rfl, _⟩ := hat.arcs.form
 have hos := HO.out s (List.mem_of_getElem? his)
 have hst := formedL_step his
 have HS := Lib.hid his; have HST := Lib.hid hst; clear his hst hat
 have hal := hos.2.1
 refine wp_skip ?_
 refine nx (hK5 _ _ ?_)
 refine Fact.sq fun K6 hK6 => ?_
 refine wp_block ?_
 refine Fact.sq fun K7 hK7 => ?_
 refine rg ?_
 have b13 := hf.b 13
 have b14 := hf.b 14
 have b15 := hf.b 15
 have b4 := hf.b 4
 refine fp fun K Z => ?_
 go_simp
 apply Z.out; clear Z K
 refine fp fun K Z => ?_
 go_simp
 try rw [if_pos (by omega)]
 apply Z.out; clear Z K
 refine fp fun K Z => ?_
 go_simp
 apply Z.out; clear Z K
 refine fp fun K Z => ?_
 go_simp
 apply Z.out; clear Z K
 refine fp fun K Z => ?_
 go_simp
 apply Z.out; clear Z K
 refine fp fun K Z => ?_
 go_simp
 apply Z.out; clear Z K
 refine Fact.z hf fun fr1 hf1 hT => ?_
 have hKp : _ ∧ _ ∧ _ ∧ _ ∧ _ ∧ _ := ⟨hT 1, hT 3, hT 4, hT 9, hT 10, hT 11⟩
 simp (decide := true) only [Fact.G, hf.size, reduceIte, s1, s9, s10, s11] at hKp
 replace hf := hf1; clear hT hf1 s1 s9 s10 s11 s12 b13 b14 b15 b4
 obtain ⟨s1, s3, s4, s9, s10, s11⟩ := hKp
 obtain ⟨W5, hW5⟩ : ∃ W0, wr.alloc (.cells #[.slice A2 s.arcs.length c2, .bool s.final, .int .u64 s.out] 61) = W0 := ⟨_, rfl⟩
 try rw [hW5]
 obtain ⟨hb5, x0, x1, x2, -, -⟩ := box3 hW5
 clear hW5
 clear d0 d1 d2
 have hra5 := hra.later hb5
 clear hra
 have hbz0 := hb0.trans ((hb.trans (hb5.mono hb.size)).mono hb0.size)
 refine nx (hK7 _ _ ?_)
 refine Fact.seq_meet (fun fr wq => Fact.Fr 56 fr ∧ fr.tmps[1]? = some (.pointer (some ⟨w.heap.size, 0, none⟩)) ∧ fr.tmps[3]? = some (.int .i64 i) ∧ fr.tmps[4]? = some (.pointer (some ⟨wr.heap.size, 0, none⟩)) ∧ fr.tmps[9]? = some (.slice (some ⟨b, off, none⟩) ss.length cc) ∧ fr.tmps[10]? = some (.int .i64 ss.length) ∧ fr.tmps[11]? = some (.int .i64 i) ∧ wq = W5 ∧ (s.final || decide (s.out = 0)) = true) ?_ ?_
 · (
 rcases hfin : s.final with _ | _
 · (
 have HFI := Lib.hid hfin; clear hfin
 have q1 := HFI.out
 refine Fact.sq fun K8 hK8 => ?_
 refine rg ?_
 have b16 := hf.b 16
 have b17 := hf.b 17
 have b18 := hf.b 18
 have b19 := hf.b 19
 have b20 := hf.b 20
 have b21 := hf.b 21
 have b22 := hf.b 22
 refine fp fun K Z => ?_
 go_simp
 apply Z.out; clear Z K
 refine fp fun K Z => ?_
 go_simp
 apply Z.out; clear Z K
 refine fp fun K Z => ?_
 go_simp
 apply Z.out; clear Z K
 refine fp fun K Z => ?_
 go_simp
 apply Z.out; clear Z K
 refine og 3 19 true ?_ fun K Z => ?_
 · (
 simp (decide := true) only [Fact.G, reduceIte, hf.size, q1, Fact.N])
 go_simp
 apply Z.out; clear Z K
 refine og 3 19 true ?_ fun K Z => ?_
 · (
 simp (decide := true) only [Fact.G, reduceIte, hf.size, q1, Fact.N])
 go_simp
 apply Z.out; clear Z K
 refine og 3 19 true ?_ fun K Z => ?_
 · (
 simp (decide := true) only [Fact.G, reduceIte, hf.size, q1, Fact.N])
 go_simp
 apply Z.out; clear Z K
 refine fp fun K Z => ?_
 go_simp
 apply Z.out; clear Z K
 refine Fact.z hf fun fr1 hf1 hT => ?_
 have hKp : _ ∧ _ ∧ _ ∧ _ ∧ _ ∧ _ ∧ _ := ⟨hT 1, hT 3, hT 4, hT 9, hT 10, hT 11, hT 23⟩
 simp (decide := true) only [Fact.G, hf.size, reduceIte, s1, s3, s4, s9, s10, s11] at hKp
 replace hf := hf1; clear hT hf1 s1 s3 s4 s9 s10 s11 b16 b17 b18 b19 b20 b21 b22
 obtain ⟨s1, s3, s4, s9, s10, s11, s23⟩ := hKp
 refine nx (hK8 _ _ ?_)
 refine Fact.cond_s s23 (fun hqo => ?_) (fun hqo => ?_)
 · (
 have ho0 : s.out ≠ 0 := by simpa using hqo
 have HO0 := Lib.hid ho0; clear ho0 hqo
 have hbad : formedL 0 ss = false := by rw [HM.out, HST.out, HFI.out, decide_eq_false HO0.out]; rfl
 have HBAD := Lib.hid hbad; clear hbad
 have hbz := hbz0
 refine Fact.sq fun K9 hK9 => ?_
 refine rg ?_
 refine fp fun K Z => ?_
 go_simp
 apply Z.out; clear Z K
 refine Fact.z hf fun fr1 hf1 hT => ?_
 have hKp := hT 2
 simp (decide := true) only [Fact.G, hf.size, reduceIte] at hKp
 replace hf := hf1; clear hT hf1 s1 s3 s4 s9 s10 s11 s23
 have s2 := hKp; clear hKp
 refine nx (hK9 _ _ ?_)
 refine wp_ret ?_
 refine Fact.then_ret ?_
 refine Fact.block_ret ?_
 refine Fact.then_ret ?_
 refine Fact.then_ret ?_
 refine Fact.block_ret ?_
 refine Fact.then_ret ?_
 exact Fact.ret1 rfl hf s2 ⟨by rw [formedF, HBAD.out]; rfl, hbz⟩)
 · (
 have ho0 : s.out = 0 := by simpa using hqo
 have HO0 := Lib.hid ho0; clear ho0 hqo
 have hfo : (s.final || decide (s.out = 0)) = true := by rw [HFI.out, decide_eq_true HO0.out]; rfl
 have HFO := Lib.hid hfo; clear hfo
 refine wp_skip ?_
 refine Fact.then_normal ?_
 exact ⟨hf, s1, s3, s4, s9, s10, s11, rfl, (by have h9 := HFO.out; rw [HFI.out] at h9; exact h9)⟩))
 · (
 have HFI := Lib.hid hfin; clear hfin
 have q1 := HFI.out
 refine Fact.sq fun K10 hK10 => ?_
 refine rg ?_
 have b16 := hf.b 16
 have b17 := hf.b 17
 have b18 := hf.b 18
 have b19 := hf.b 19
 have b20 := hf.b 20
 have b21 := hf.b 21
 have b22 := hf.b 22
 refine fp fun K Z => ?_
 go_simp
 apply Z.out; clear Z K
 refine fp fun K Z => ?_
 go_simp
 apply Z.out; clear Z K
 refine fp fun K Z => ?_
 go_simp
 apply Z.out; clear Z K
 refine fp fun K Z => ?_
 go_simp
 apply Z.out; clear Z K
 refine sk 3 19 true ?_ ?_
 · (
 simp (decide := true) only [Fact.G, reduceIte, hf.size, q1, Fact.N])
 refine sk 3 19 true ?_ ?_
 · (
 simp (decide := true) only [Fact.G, reduceIte, hf.size, q1, Fact.N])
 refine sk 3 19 true ?_ ?_
 · (
 simp (decide := true) only [Fact.G, reduceIte, hf.size, q1, Fact.N])
 refine fp fun K Z => ?_
 go_simp
 apply Z.out; clear Z K
 refine Fact.z hf fun fr1 hf1 hT => ?_
 have hKp : _ ∧ _ ∧ _ ∧ _ ∧ _ ∧ _ ∧ _ := ⟨hT 1, hT 3, hT 4, hT 9, hT 10, hT 11, hT 23⟩
 simp (decide := true) only [Fact.G, hf.size, reduceIte, s1, s3, s4, s9, s10, s11] at hKp
 replace hf := hf1; clear hT hf1 s1 s3 s4 s9 s10 s11 b16 b17 b18 b19 b20 b21 b22
 obtain ⟨s1, s3, s4, s9, s10, s11, s23⟩ := hKp
 refine nx (hK10 _ _ ?_)
 have hfo : (s.final || decide (s.out = 0)) = true := by rw [HFI.out]; rfl
 have HFO := Lib.hid hfo; clear hfo
 refine Fact.cond_f s23 ?_
 refine wp_skip ?_
 refine Fact.then_normal ?_
 exact ⟨hf, s1, s3, s4, s9, s10, s11, rfl, (by have h9 := HFO.out; rw [HFI.out] at h9; exact h9)⟩))
 · (
 clear hf s1 s3 s4 s9 s10 s11
 rintro fr wq ⟨hf, s1, s3, s4, s9, s10, s11, hw, hfo⟩
 subst wq
 have HFO := Lib.hid hfo; clear hfo
 refine Fact.sq fun K11 hK11 => ?_
 refine rg ?_
 refine fp fun K Z => ?_
 go_simp
 apply Z.out; clear Z K
 refine Fact.z hf fun fr1 hf1 hT => ?_
 have hKp : _ ∧ _ ∧ _ ∧ _ ∧ _ ∧ _ ∧ _ := ⟨hT 1, hT 3, hT 4, hT 5, hT 9, hT 10, hT 11⟩
 simp (decide := true) only [Fact.G, hf.size, reduceIte, s1, s3, s4, s9, s10, s11] at hKp
 replace hf := hf1; clear hT hf1 s1 s3 s4 s9 s10 s11
 obtain ⟨s1, s3, s4, s5, s9, s10, s11⟩ := hKp
 refine nx (hK11 _ _ ?_)
 refine Fact.sq fun K12 hK12 => ?_
 refine rg ?_
 have b24 := hf.b 24
 have b25 := hf.b 25
 refine fp fun K Z => ?_
 go_simp
 apply Z.out; clear Z K
 refine fp fun K Z => ?_
 go_simp
 apply Z.out; clear Z K
 refine fp fun K Z => ?_
 go_simp
 apply Z.out; clear Z K
 refine fp fun K Z => ?_
 go_simp
 apply Z.out; clear Z K
 refine Fact.z hf fun fr1 hf1 hT => ?_
 have hKp : _ ∧ _ ∧ _ ∧ _ ∧ _ ∧ _ ∧ _ ∧ _ ∧ _ := ⟨hT 1, hT 3, hT 5, hT 9, hT 10, hT 11, hT 25, hT 26, hT 27⟩
 simp (decide := true) only [Fact.G, hf.size, reduceIte, s1, s3, s5, s9, s10, s11] at hKp
 replace hf := hf1; clear hT hf1 s1 s3 s4 s5 s9 s10 s11 b24 b25
 obtain ⟨s1, s3, s5, s9, s10, s11, s25, s26, s27⟩ := hKp
 refine nx (hK12 _ _ ?_)
 refine wp_block ?_
 refine wp_loop_ghost (fun gk2 fr wr2 => ∃ (k : Nat) (last : Int), gk2 = s.arcs.length - k ∧ k ≤ s.arcs.length ∧ Fact.Fr 56 fr ∧ fr.tmps[1]? = some (.pointer (some ⟨w.heap.size, 0, none⟩)) ∧ fr.tmps[3]? = some (.int .i64 i) ∧ fr.tmps[5]? = some (.int .i64 last) ∧ fr.tmps[9]? = some (.slice (some ⟨b, off, none⟩) ss.length cc) ∧ fr.tmps[10]? = some (.int .i64 ss.length) ∧ fr.tmps[11]? = some (.int .i64 i) ∧ fr.tmps[25]? = some (.slice A2 s.arcs.length c2) ∧ fr.tmps[26]? = some (.int .i64 s.arcs.length) ∧ fr.tmps[27]? = some (.int .i64 k) ∧ okArcs i (-1) s.arcs = okArcs i last (s.arcs.drop k) ∧ Below W5.heap.size W5 wr2) (s.arcs.length) ?_ ?_
 · (
 exact ⟨0, -1, rfl, Nat.zero_le _, hf, s1, s3, s5, s9, s10, s11, s25, s26, s27, rfl, Below.refl _ _⟩)
 · (
 clear hf s1 s3 s5 s9 s10 s11 s25 s26 s27
 rintro gk2 fr wr2 ⟨k, last, hk2, hki, hf, s1, s3, s5, s9, s10, s11, s25, s26, s27, hoa, hb6⟩
 have HK2 := Lib.hid hk2; have HOA := Lib.hid hoa; clear hk2 hoa
 refine Fact.sq fun K13 hK13 => ?_
 refine rg ?_
 refine fp fun K Z => ?_
 go_simp
 apply Z.out; clear Z K
 refine Fact.z hf fun fr1 hf1 hT => ?_
 have hKp : _ ∧ _ ∧ _ ∧ _ ∧ _ ∧ _ ∧ _ ∧ _ ∧ _ ∧ _ := ⟨hT 1, hT 3, hT 5, hT 9, hT 10, hT 11, hT 25, hT 26, hT 27, hT 28⟩
 simp (decide := true) only [Fact.G, hf.size, reduceIte, s1, s3, s5, s9, s10, s11, s25, s26, s27] at hKp
 replace hf := hf1; clear hT hf1 s1 s3 s5 s9 s10 s11 s25 s26 s27
 obtain ⟨s1, s3, s5, s9, s10, s11, s25, s26, s27, s28⟩ := hKp
 refine nx (hK13 _ _ ?_)
 refine Fact.sq fun K14 hK14 => ?_
 refine Fact.cond_s s28 (fun hq2 => ?_) (fun hq2 => ?_)
 · (
 have hklt : k < s.arcs.length := by have h9 := of_decide_eq_true hq2; omega
 have HQ2 := Lib.hid hq2; clear hq2
 obtain ⟨a, hka⟩ : ∃ a, s.arcs[k]? = some a := ⟨_, List.getElem?_eq_getElem hklt⟩
 obtain ⟨b3, off3, rfl, hbl, y0, y1, y2⟩ := (hra5.later hb6).at' hka
 have haa := hos.2.2 a (List.mem_of_getElem? hka)
 have hat := okArcs_step (i := i) (last := last) hka
 have HKA := Lib.hid hka; have HAT := Lib.hid hat; clear hka hat
 have hab := haa.1
 rcases arc_cases a.to (i : Int) (a.byte : Int) last with hc | hc | hc | hc
 · (
 have q2 : decide (a.to < 0) = true := decide_eq_true hc
 have HC := Lib.hid hc; clear hc
 refine wp_skip ?_
 refine nx (hK14 _ _ ?_)
 refine Fact.sq fun K15 hK15 => ?_
 refine wp_block ?_
 refine Fact.sq fun K16 hK16 => ?_
 refine rg ?_
 have b29 := hf.b 29
 have b30 := hf.b 30
 have b7 := hf.b 7
 refine fp fun K Z => ?_
 go_simp
 try rw [if_pos (by omega)]
 apply Z.out; clear Z K
 refine fp fun K Z => ?_
 go_simp
 apply Z.out; clear Z K
 refine fp fun K Z => ?_
 go_simp
 apply Z.out; clear Z K
 refine fp fun K Z => ?_
 go_simp
 apply Z.out; clear Z K
 refine Fact.z hf fun fr1 hf1 hT => ?_
 have hKp : _ ∧ _ ∧ _ ∧ _ ∧ _ ∧ _ ∧ _ ∧ _ ∧ _ ∧ _ := ⟨hT 1, hT 3, hT 5, hT 7, hT 9, hT 10, hT 11, hT 25, hT 26, hT 27⟩
 simp (decide := true) only [Fact.G, hf.size, reduceIte, s1, s3, s5, s9, s10, s11, s25, s26, s27] at hKp
 replace hf := hf1; clear hT hf1 s1 s3 s5 s9 s10 s11 s25 s26 s27 s28 b29 b30 b7
 obtain ⟨s1, s3, s5, s7, s9, s10, s11, s25, s26, s27⟩ := hKp
 obtain ⟨W7, hW7⟩ : ∃ W0, wr2.alloc (.cells #[.int .u8 a.byte, .int .u64 a.out, .int .i64 a.to] 63) = W0 := ⟨_, rfl⟩
 try rw [hW7]
 obtain ⟨hb7, z0, -, z2, -, -⟩ := box3 hW7
 clear hW7
 clear y0 y1 y2 hbl
 have hbz := hbz0.trans ((hb6.trans (hb7.mono hb6.size)).mono hbz0.size)
 refine nx (hK16 _ _ ?_)
 refine Fact.sq fun K17 hK17 => ?_
 refine Fact.sq fun K18 hK18 => ?_
 refine rg ?_
 have b31 := hf.b 31
 have b32 := hf.b 32
 have b33 := hf.b 33
 have b34 := hf.b 34
 have b35 := hf.b 35
 have b36 := hf.b 36
 have b37 := hf.b 37
 have b38 := hf.b 38
 have b39 := hf.b 39
 have b40 := hf.b 40
 have b41 := hf.b 41
 have b42 := hf.b 42
 have b43 := hf.b 43
 have b44 := hf.b 44
 have b45 := hf.b 45
 refine fp fun K Z => ?_
 go_simp
 apply Z.out; clear Z K
 refine fp fun K Z => ?_
 go_simp
 apply Z.out; clear Z K
 refine fp fun K Z => ?_
 go_simp
 apply Z.out; clear Z K
 refine fp fun K Z => ?_
 go_simp
 apply Z.out; clear Z K
 refine sk 3 34 false ?_ ?_
 · (
 simp (decide := true) only [Fact.G, reduceIte, hf.size, q2, Fact.N])
 refine sk 3 34 false ?_ ?_
 · (
 simp (decide := true) only [Fact.G, reduceIte, hf.size, q2, Fact.N])
 refine sk 3 34 false ?_ ?_
 · (
 simp (decide := true) only [Fact.G, reduceIte, hf.size, q2, Fact.N])
 refine sk 3 34 false ?_ ?_
 · (
 simp (decide := true) only [Fact.G, reduceIte, hf.size, q2, Fact.N])
 refine fp fun K Z => ?_
 go_simp
 apply Z.out; clear Z K
 refine fp fun K Z => ?_
 go_simp
 apply Z.out; clear Z K
 refine sk 9 40 false ?_ ?_
 · (
 simp (decide := true) only [Fact.G, reduceIte, hf.size, q2, Fact.N])
 refine sk 9 40 false ?_ ?_
 · (
 simp (decide := true) only [Fact.G, reduceIte, hf.size, q2, Fact.N])
 refine sk 9 40 false ?_ ?_
 · (
 simp (decide := true) only [Fact.G, reduceIte, hf.size, q2, Fact.N])
 refine sk 9 40 false ?_ ?_
 · (
 simp (decide := true) only [Fact.G, reduceIte, hf.size, q2, Fact.N])
 refine sk 9 40 false ?_ ?_
 · (
 simp (decide := true) only [Fact.G, reduceIte, hf.size, q2, Fact.N])
 refine fp fun K Z => ?_
 go_simp
 apply Z.out; clear Z K
 refine Fact.z hf fun fr1 hf1 hT => ?_
 have hKp : _ ∧ _ ∧ _ ∧ _ ∧ _ ∧ _ ∧ _ ∧ _ ∧ _ ∧ _ := ⟨hT 1, hT 3, hT 7, hT 9, hT 10, hT 11, hT 25, hT 26, hT 27, hT 46⟩
 simp (decide := true) only [Fact.G, hf.size, reduceIte, s1, s3, s7, s9, s10, s11, s25, s26, s27] at hKp
 replace hf := hf1; clear hT hf1 s1 s3 s5 s7 s9 s10 s11 s25 s26 s27 b31 b32 b33 b34 b35 b36 b37 b38 b39 b40 b41 b42 b43 b44 b45
 obtain ⟨s1, s3, s7, s9, s10, s11, s25, s26, s27, s46⟩ := hKp
 refine nx (hK18 _ _ ?_)
 refine Fact.cond_t s46 ?_
 have hbad : formedL 0 ss = false := by rw [HM.out, HST.out, HOA.out, HAT.out]; have := HC.out; rw [decide_eq_false (show ¬ 0 ≤ a.to by omega)]; simp
 have HBAD := Lib.hid hbad; clear hbad
 refine Fact.sq fun K19 hK19 => ?_
 refine rg ?_
 refine fp fun K Z => ?_
 go_simp
 apply Z.out; clear Z K
 refine Fact.z hf fun fr1 hf1 hT => ?_
 have hKp := hT 2
 simp (decide := true) only [Fact.G, hf.size, reduceIte] at hKp
 replace hf := hf1; clear hT hf1 s1 s3 s7 s9 s10 s11 s25 s26 s27 s46
 have s2 := hKp; clear hKp
 refine nx (hK19 _ _ ?_)
 refine wp_ret ?_
 refine Fact.then_ret ?_
 refine Fact.block_ret ?_
 refine Fact.then_ret ?_
 refine Fact.then_ret ?_
 refine Fact.block_ret ?_
 refine Fact.block_ret ?_
 refine Fact.then_ret ?_
 refine Fact.then_ret ?_
 refine Fact.block_ret ?_
 refine Fact.then_ret ?_
 exact Fact.ret1 rfl hf s2 ⟨by rw [formedF, HBAD.out]; rfl, hbz⟩)
 · (
 have q2 : decide (a.to < 0) = false := decide_eq_false (by omega)
 have q3 : decide ((i : Int) ≤ a.to) = true := decide_eq_true hc.2
 have HC := Lib.hid hc; clear hc
 refine wp_skip ?_
 refine nx (hK14 _ _ ?_)
 refine Fact.sq fun K20 hK20 => ?_
 refine wp_block ?_
 refine Fact.sq fun K21 hK21 => ?_
 refine rg ?_
 have b29 := hf.b 29
 have b30 := hf.b 30
 have b7 := hf.b 7
 refine fp fun K Z => ?_
 go_simp
 try rw [if_pos (by omega)]
 apply Z.out; clear Z K
 refine fp fun K Z => ?_
 go_simp
 apply Z.out; clear Z K
 refine fp fun K Z => ?_
 go_simp
 apply Z.out; clear Z K
 refine fp fun K Z => ?_
 go_simp
 apply Z.out; clear Z K
 refine Fact.z hf fun fr1 hf1 hT => ?_
 have hKp : _ ∧ _ ∧ _ ∧ _ ∧ _ ∧ _ ∧ _ ∧ _ ∧ _ ∧ _ := ⟨hT 1, hT 3, hT 5, hT 7, hT 9, hT 10, hT 11, hT 25, hT 26, hT 27⟩
 simp (decide := true) only [Fact.G, hf.size, reduceIte, s1, s3, s5, s9, s10, s11, s25, s26, s27] at hKp
 replace hf := hf1; clear hT hf1 s1 s3 s5 s9 s10 s11 s25 s26 s27 s28 b29 b30 b7
 obtain ⟨s1, s3, s5, s7, s9, s10, s11, s25, s26, s27⟩ := hKp
 obtain ⟨W7, hW7⟩ : ∃ W0, wr2.alloc (.cells #[.int .u8 a.byte, .int .u64 a.out, .int .i64 a.to] 63) = W0 := ⟨_, rfl⟩
 try rw [hW7]
 obtain ⟨hb7, z0, -, z2, -, -⟩ := box3 hW7
 clear hW7
 clear y0 y1 y2 hbl
 have hbz := hbz0.trans ((hb6.trans (hb7.mono hb6.size)).mono hbz0.size)
 refine nx (hK21 _ _ ?_)
 refine Fact.sq fun K22 hK22 => ?_
 refine Fact.sq fun K23 hK23 => ?_
 refine rg ?_
 have b31 := hf.b 31
 have b32 := hf.b 32
 have b33 := hf.b 33
 have b34 := hf.b 34
 have b35 := hf.b 35
 have b36 := hf.b 36
 have b37 := hf.b 37
 have b38 := hf.b 38
 have b39 := hf.b 39
 have b40 := hf.b 40
 have b41 := hf.b 41
 have b42 := hf.b 42
 have b43 := hf.b 43
 have b44 := hf.b 44
 have b45 := hf.b 45
 refine fp fun K Z => ?_
 go_simp
 apply Z.out; clear Z K
 refine fp fun K Z => ?_
 go_simp
 apply Z.out; clear Z K
 refine fp fun K Z => ?_
 go_simp
 apply Z.out; clear Z K
 refine fp fun K Z => ?_
 go_simp
 apply Z.out; clear Z K
 refine og 3 34 false ?_ fun K Z => ?_
 · (
 simp (decide := true) only [Fact.G, reduceIte, hf.size, q2, q3])
 go_simp
 apply Z.out; clear Z K
 refine og 3 34 false ?_ fun K Z => ?_
 · (
 simp (decide := true) only [Fact.G, reduceIte, hf.size, q2, q3])
 go_simp
 apply Z.out; clear Z K
 refine og 3 34 false ?_ fun K Z => ?_
 · (
 simp (decide := true) only [Fact.G, reduceIte, hf.size, q2, q3])
 go_simp
 apply Z.out; clear Z K
 refine og 3 34 false ?_ fun K Z => ?_
 · (
 simp (decide := true) only [Fact.G, reduceIte, hf.size, q2, q3])
 go_simp
 apply Z.out; clear Z K
 refine fp fun K Z => ?_
 go_simp
 apply Z.out; clear Z K
 refine fp fun K Z => ?_
 go_simp
 apply Z.out; clear Z K
 refine sk 9 40 false ?_ ?_
 · (
 simp (decide := true) only [Fact.G, reduceIte, hf.size, q2, q3, Fact.N])
 refine sk 9 40 false ?_ ?_
 · (
 simp (decide := true) only [Fact.G, reduceIte, hf.size, q2, q3, Fact.N])
 refine sk 9 40 false ?_ ?_
 · (
 simp (decide := true) only [Fact.G, reduceIte, hf.size, q2, q3, Fact.N])
 refine sk 9 40 false ?_ ?_
 · (
 simp (decide := true) only [Fact.G, reduceIte, hf.size, q2, q3, Fact.N])
 refine sk 9 40 false ?_ ?_
 · (
 simp (decide := true) only [Fact.G, reduceIte, hf.size, q2, q3, Fact.N])
 refine fp fun K Z => ?_
 go_simp
 apply Z.out; clear Z K
 refine Fact.z hf fun fr1 hf1 hT => ?_
 have hKp : _ ∧ _ ∧ _ ∧ _ ∧ _ ∧ _ ∧ _ ∧ _ ∧ _ ∧ _ := ⟨hT 1, hT 3, hT 7, hT 9, hT 10, hT 11, hT 25, hT 26, hT 27, hT 46⟩
 simp (decide := true) only [Fact.G, hf.size, reduceIte, s1, s3, s7, s9, s10, s11, s25, s26, s27] at hKp
 replace hf := hf1; clear hT hf1 s1 s3 s5 s7 s9 s10 s11 s25 s26 s27 b31 b32 b33 b34 b35 b36 b37 b38 b39 b40 b41 b42 b43 b44 b45
 obtain ⟨s1, s3, s7, s9, s10, s11, s25, s26, s27, s46⟩ := hKp
 refine nx (hK23 _ _ ?_)
 refine Fact.cond_t s46 ?_
 have hbad : formedL 0 ss = false := by rw [HM.out, HST.out, HOA.out, HAT.out]; have := HC.out; rw [decide_eq_false (show ¬ a.to < (i : Int) by omega)]; simp
 have HBAD := Lib.hid hbad; clear hbad
 refine Fact.sq fun K24 hK24 => ?_
 refine rg ?_
 refine fp fun K Z => ?_
 go_simp
 apply Z.out; clear Z K
 refine Fact.z hf fun fr1 hf1 hT => ?_
 have hKp := hT 2
 simp (decide := true) only [Fact.G, hf.size, reduceIte] at hKp
 replace hf := hf1; clear hT hf1 s1 s3 s7 s9 s10 s11 s25 s26 s27 s46
 have s2 := hKp; clear hKp
 refine nx (hK24 _ _ ?_)
 refine wp_ret ?_
 refine Fact.then_ret ?_
 refine Fact.block_ret ?_
 refine Fact.then_ret ?_
 refine Fact.then_ret ?_
 refine Fact.block_ret ?_
 refine Fact.block_ret ?_
 refine Fact.then_ret ?_
 refine Fact.then_ret ?_
 refine Fact.block_ret ?_
 refine Fact.then_ret ?_
 exact Fact.ret1 rfl hf s2 ⟨by rw [formedF, HBAD.out]; rfl, hbz⟩)
 · (
 have q2 : decide (a.to < 0) = false := decide_eq_false (by omega)
 have q3 : decide ((i : Int) ≤ a.to) = false := decide_eq_false (by omega)
 have q4 : decide ((a.byte : Int) ≤ last) = true := decide_eq_true hc.2.2
 have HC := Lib.hid hc; clear hc
 refine wp_skip ?_
 refine nx (hK14 _ _ ?_)
 refine Fact.sq fun K25 hK25 => ?_
 refine wp_block ?_
 refine Fact.sq fun K26 hK26 => ?_
 refine rg ?_
 have b29 := hf.b 29
 have b30 := hf.b 30
 have b7 := hf.b 7
 refine fp fun K Z => ?_
 go_simp
 try rw [if_pos (by omega)]
 apply Z.out; clear Z K
 refine fp fun K Z => ?_
 go_simp
 apply Z.out; clear Z K
 refine fp fun K Z => ?_
 go_simp
 apply Z.out; clear Z K
 refine fp fun K Z => ?_
 go_simp
 apply Z.out; clear Z K
 refine Fact.z hf fun fr1 hf1 hT => ?_
 have hKp : _ ∧ _ ∧ _ ∧ _ ∧ _ ∧ _ ∧ _ ∧ _ ∧ _ ∧ _ := ⟨hT 1, hT 3, hT 5, hT 7, hT 9, hT 10, hT 11, hT 25, hT 26, hT 27⟩
 simp (decide := true) only [Fact.G, hf.size, reduceIte, s1, s3, s5, s9, s10, s11, s25, s26, s27] at hKp
 replace hf := hf1; clear hT hf1 s1 s3 s5 s9 s10 s11 s25 s26 s27 s28 b29 b30 b7
 obtain ⟨s1, s3, s5, s7, s9, s10, s11, s25, s26, s27⟩ := hKp
 obtain ⟨W7, hW7⟩ : ∃ W0, wr2.alloc (.cells #[.int .u8 a.byte, .int .u64 a.out, .int .i64 a.to] 63) = W0 := ⟨_, rfl⟩
 try rw [hW7]
 obtain ⟨hb7, z0, -, z2, -, -⟩ := box3 hW7
 clear hW7
 clear y0 y1 y2 hbl
 have hbz := hbz0.trans ((hb6.trans (hb7.mono hb6.size)).mono hbz0.size)
 refine nx (hK26 _ _ ?_)
 refine Fact.sq fun K27 hK27 => ?_
 refine Fact.sq fun K28 hK28 => ?_
 refine rg ?_
 have b31 := hf.b 31
 have b32 := hf.b 32
 have b33 := hf.b 33
 have b34 := hf.b 34
 have b35 := hf.b 35
 have b36 := hf.b 36
 have b37 := hf.b 37
 have b38 := hf.b 38
 have b39 := hf.b 39
 have b40 := hf.b 40
 have b41 := hf.b 41
 have b42 := hf.b 42
 have b43 := hf.b 43
 have b44 := hf.b 44
 have b45 := hf.b 45
 refine fp fun K Z => ?_
 go_simp
 apply Z.out; clear Z K
 refine fp fun K Z => ?_
 go_simp
 apply Z.out; clear Z K
 refine fp fun K Z => ?_
 go_simp
 apply Z.out; clear Z K
 refine fp fun K Z => ?_
 go_simp
 apply Z.out; clear Z K
 refine og 3 34 false ?_ fun K Z => ?_
 · (
 simp (decide := true) only [Fact.G, reduceIte, hf.size, q2, q3, q4])
 go_simp
 apply Z.out; clear Z K
 refine og 3 34 false ?_ fun K Z => ?_
 · (
 simp (decide := true) only [Fact.G, reduceIte, hf.size, q2, q3, q4])
 go_simp
 apply Z.out; clear Z K
 refine og 3 34 false ?_ fun K Z => ?_
 · (
 simp (decide := true) only [Fact.G, reduceIte, hf.size, q2, q3, q4])
 go_simp
 apply Z.out; clear Z K
 refine og 3 34 false ?_ fun K Z => ?_
 · (
 simp (decide := true) only [Fact.G, reduceIte, hf.size, q2, q3, q4])
 go_simp
 apply Z.out; clear Z K
 refine fp fun K Z => ?_
 go_simp
 apply Z.out; clear Z K
 refine fp fun K Z => ?_
 go_simp
 apply Z.out; clear Z K
 refine og 9 40 false ?_ fun K Z => ?_
 · (
 simp (decide := true) only [Fact.G, reduceIte, hf.size, q2, q3, q4])
 go_simp
 apply Z.out; clear Z K
 refine og 9 40 false ?_ fun K Z => ?_
 · (
 simp (decide := true) only [Fact.G, reduceIte, hf.size, q2, q3, q4])
 go_simp
 apply Z.out; clear Z K
 refine og 9 40 false ?_ fun K Z => ?_
 · (
 simp (decide := true) only [Fact.G, reduceIte, hf.size, q2, q3, q4])
 go_simp
 try simp (disch := omega) only [Fact.wrap_i64]
 apply Z.out; clear Z K
 refine og 9 40 false ?_ fun K Z => ?_
 · (
 simp (decide := true) only [Fact.G, reduceIte, hf.size, q2, q3, q4])
 go_simp
 apply Z.out; clear Z K
 refine og 9 40 false ?_ fun K Z => ?_
 · (
 simp (decide := true) only [Fact.G, reduceIte, hf.size, q2, q3, q4])
 go_simp
 apply Z.out; clear Z K
 refine fp fun K Z => ?_
 go_simp
 apply Z.out; clear Z K
 refine Fact.z hf fun fr1 hf1 hT => ?_
 have hKp : _ ∧ _ ∧ _ ∧ _ ∧ _ ∧ _ ∧ _ ∧ _ ∧ _ ∧ _ := ⟨hT 1, hT 3, hT 7, hT 9, hT 10, hT 11, hT 25, hT 26, hT 27, hT 46⟩
 simp (decide := true) only [Fact.G, hf.size, reduceIte, s1, s3, s7, s9, s10, s11, s25, s26, s27] at hKp
 replace hf := hf1; clear hT hf1 s1 s3 s5 s7 s9 s10 s11 s25 s26 s27 b31 b32 b33 b34 b35 b36 b37 b38 b39 b40 b41 b42 b43 b44 b45
 obtain ⟨s1, s3, s7, s9, s10, s11, s25, s26, s27, s46⟩ := hKp
 refine nx (hK28 _ _ ?_)
 refine Fact.cond_t s46 ?_
 have hbad : formedL 0 ss = false := by rw [HM.out, HST.out, HOA.out, HAT.out]; have := HC.out; rw [decide_eq_false (show ¬ last < (a.byte : Int) by omega)]; simp
 have HBAD := Lib.hid hbad; clear hbad
 refine Fact.sq fun K29 hK29 => ?_
 refine rg ?_
 refine fp fun K Z => ?_
 go_simp
 apply Z.out; clear Z K
 refine Fact.z hf fun fr1 hf1 hT => ?_
 have hKp := hT 2
 simp (decide := true) only [Fact.G, hf.size, reduceIte] at hKp
 replace hf := hf1; clear hT hf1 s1 s3 s7 s9 s10 s11 s25 s26 s27 s46
 have s2 := hKp; clear hKp
 refine nx (hK29 _ _ ?_)
 refine wp_ret ?_
 refine Fact.then_ret ?_
 refine Fact.block_ret ?_
 refine Fact.then_ret ?_
 refine Fact.then_ret ?_
 refine Fact.block_ret ?_
 refine Fact.block_ret ?_
 refine Fact.then_ret ?_
 refine Fact.then_ret ?_
 refine Fact.block_ret ?_
 refine Fact.then_ret ?_
 exact Fact.ret1 rfl hf s2 ⟨by rw [formedF, HBAD.out]; rfl, hbz⟩)
 · (
 have q2 : decide (a.to < 0) = false := decide_eq_false (by omega)
 have q3 : decide ((i : Int) ≤ a.to) = false := decide_eq_false (by omega)
 have q4 : decide ((a.byte : Int) ≤ last) = false := decide_eq_false (by omega)
 have HC := Lib.hid hc; clear hc
 refine wp_skip ?_
 refine nx (hK14 _ _ ?_)
 refine Fact.sq fun K30 hK30 => ?_
 refine wp_block ?_
 refine Fact.sq fun K31 hK31 => ?_
 refine rg ?_
 have b29 := hf.b 29
 have b30 := hf.b 30
 have b7 := hf.b 7
 refine fp fun K Z => ?_
 go_simp
 try rw [if_pos (by omega)]
 apply Z.out; clear Z K
 refine fp fun K Z => ?_
 go_simp
 apply Z.out; clear Z K
 refine fp fun K Z => ?_
 go_simp
 apply Z.out; clear Z K
 refine fp fun K Z => ?_
 go_simp
 apply Z.out; clear Z K
 refine Fact.z hf fun fr1 hf1 hT => ?_
 have hKp : _ ∧ _ ∧ _ ∧ _ ∧ _ ∧ _ ∧ _ ∧ _ ∧ _ ∧ _ := ⟨hT 1, hT 3, hT 5, hT 7, hT 9, hT 10, hT 11, hT 25, hT 26, hT 27⟩
 simp (decide := true) only [Fact.G, hf.size, reduceIte, s1, s3, s5, s9, s10, s11, s25, s26, s27] at hKp
 replace hf := hf1; clear hT hf1 s1 s3 s5 s9 s10 s11 s25 s26 s27 s28 b29 b30 b7
 obtain ⟨s1, s3, s5, s7, s9, s10, s11, s25, s26, s27⟩ := hKp
 obtain ⟨W7, hW7⟩ : ∃ W0, wr2.alloc (.cells #[.int .u8 a.byte, .int .u64 a.out, .int .i64 a.to] 63) = W0 := ⟨_, rfl⟩
 try rw [hW7]
 obtain ⟨hb7, z0, -, z2, -, -⟩ := box3 hW7
 clear hW7
 clear y0 y1 y2 hbl
 have hbz := hbz0.trans ((hb6.trans (hb7.mono hb6.size)).mono hbz0.size)
 refine nx (hK31 _ _ ?_)
 refine Fact.sq fun K32 hK32 => ?_
 refine Fact.sq fun K33 hK33 => ?_
 refine rg ?_
 have b31 := hf.b 31
 have b32 := hf.b 32
 have b33 := hf.b 33
 have b34 := hf.b 34
 have b35 := hf.b 35
 have b36 := hf.b 36
 have b37 := hf.b 37
 have b38 := hf.b 38
 have b39 := hf.b 39
 have b40 := hf.b 40
 have b41 := hf.b 41
 have b42 := hf.b 42
 have b43 := hf.b 43
 have b44 := hf.b 44
 have b45 := hf.b 45
 refine fp fun K Z => ?_
 go_simp
 apply Z.out; clear Z K
 refine fp fun K Z => ?_
 go_simp
 apply Z.out; clear Z K
 refine fp fun K Z => ?_
 go_simp
 apply Z.out; clear Z K
 refine fp fun K Z => ?_
 go_simp
 apply Z.out; clear Z K
 refine og 3 34 false ?_ fun K Z => ?_
 · (
 simp (decide := true) only [Fact.G, reduceIte, hf.size, q2, q3, q4])
 go_simp
 apply Z.out; clear Z K
 refine og 3 34 false ?_ fun K Z => ?_
 · (
 simp (decide := true) only [Fact.G, reduceIte, hf.size, q2, q3, q4])
 go_simp
 apply Z.out; clear Z K
 refine og 3 34 false ?_ fun K Z => ?_
 · (
 simp (decide := true) only [Fact.G, reduceIte, hf.size, q2, q3, q4])
 go_simp
 apply Z.out; clear Z K
 refine og 3 34 false ?_ fun K Z => ?_
 · (
 simp (decide := true) only [Fact.G, reduceIte, hf.size, q2, q3, q4])
 go_simp
 apply Z.out; clear Z K
 refine fp fun K Z => ?_
 go_simp
 apply Z.out; clear Z K
 refine fp fun K Z => ?_
 go_simp
 apply Z.out; clear Z K
 refine og 9 40 false ?_ fun K Z => ?_
 · (
 simp (decide := true) only [Fact.G, reduceIte, hf.size, q2, q3, q4])
 go_simp
 apply Z.out; clear Z K
 refine og 9 40 false ?_ fun K Z => ?_
 · (
 simp (decide := true) only [Fact.G, reduceIte, hf.size, q2, q3, q4])
 go_simp
 apply Z.out; clear Z K
 refine og 9 40 false ?_ fun K Z => ?_
 · (
 simp (decide := true) only [Fact.G, reduceIte, hf.size, q2, q3, q4])
 go_simp
 try simp (disch := omega) only [Fact.wrap_i64]
 apply Z.out; clear Z K
 refine og 9 40 false ?_ fun K Z => ?_
 · (
 simp (decide := true) only [Fact.G, reduceIte, hf.size, q2, q3, q4])
 go_simp
 apply Z.out; clear Z K
 refine og 9 40 false ?_ fun K Z => ?_
 · (
 simp (decide := true) only [Fact.G, reduceIte, hf.size, q2, q3, q4])
 go_simp
 apply Z.out; clear Z K
 refine fp fun K Z => ?_
 go_simp
 apply Z.out; clear Z K
 refine Fact.z hf fun fr1 hf1 hT => ?_
 have hKp : _ ∧ _ ∧ _ ∧ _ ∧ _ ∧ _ ∧ _ ∧ _ ∧ _ ∧ _ := ⟨hT 1, hT 3, hT 7, hT 9, hT 10, hT 11, hT 25, hT 26, hT 27, hT 46⟩
 simp (decide := true) only [Fact.G, hf.size, reduceIte, s1, s3, s7, s9, s10, s11, s25, s26, s27] at hKp
 replace hf := hf1; clear hT hf1 s1 s3 s5 s7 s9 s10 s11 s25 s26 s27 b31 b32 b33 b34 b35 b36 b37 b38 b39 b40 b41 b42 b43 b44 b45
 obtain ⟨s1, s3, s7, s9, s10, s11, s25, s26, s27, s46⟩ := hKp
 refine nx (hK33 _ _ ?_)
 refine Fact.cond_f s46 ?_
 have hoa3 : okArcs i (-1) s.arcs = okArcs i (a.byte : Int) (s.arcs.drop (k + 1)) := by rw [HOA.out, HAT.out]; have := HC.out; rw [decide_eq_true (show 0 ≤ a.to by omega), decide_eq_true (show a.to < (i : Int) by omega), decide_eq_true (show last < (a.byte : Int) by omega)]; rfl
 have HOA3 := Lib.hid hoa3; clear hoa3
 refine wp_skip ?_
 refine nx (hK32 _ _ ?_)
 refine rg ?_
 have b47 := hf.b 47
 have b48 := hf.b 48
 have b49 := hf.b 49
 refine fp fun K Z => ?_
 go_simp
 apply Z.out; clear Z K
 refine fp fun K Z => ?_
 go_simp
 apply Z.out; clear Z K
 refine fp fun K Z => ?_
 go_simp
 try simp (disch := omega) only [Fact.wrap_i64]
 apply Z.out; clear Z K
 refine fp fun K Z => ?_
 go_simp
 apply Z.out; clear Z K
 refine Fact.z hf fun fr1 hf1 hT => ?_
 have hKp : _ ∧ _ ∧ _ ∧ _ ∧ _ ∧ _ ∧ _ ∧ _ ∧ _ := ⟨hT 1, hT 3, hT 5, hT 9, hT 10, hT 11, hT 25, hT 26, hT 27⟩
 simp (decide := true) only [Fact.G, hf.size, reduceIte, s1, s3, s9, s10, s11, s25, s26, s27] at hKp
 replace hf := hf1; clear hT hf1 s1 s3 s7 s9 s10 s11 s25 s26 s27 s46 b47 b48 b49
 obtain ⟨s1, s3, s5, s9, s10, s11, s25, s26, s27⟩ := hKp
 refine Fact.block_normal ?_
 refine nx (hK30 _ _ ?_)
 refine rg ?_
 have b50 := hf.b 50
 refine fp fun K Z => ?_
 go_simp
 try simp (disch := omega) only [Fact.W]
 apply Z.out; clear Z K
 refine fp fun K Z => ?_
 go_simp
 apply Z.out; clear Z K
 refine Fact.z hf fun fr1 hf1 hT => ?_
 have hKp : _ ∧ _ ∧ _ ∧ _ ∧ _ ∧ _ ∧ _ ∧ _ ∧ _ := ⟨hT 1, hT 3, hT 5, hT 9, hT 10, hT 11, hT 25, hT 26, hT 27⟩
 simp (decide := true) only [Fact.G, hf.size, reduceIte, s1, s3, s5, s9, s10, s11, s25, s26] at hKp
 replace hf := hf1; clear hT hf1 s1 s3 s5 s9 s10 s11 s25 s26 s27 b50
 obtain ⟨s1, s3, s5, s9, s10, s11, s25, s26, s27⟩ := hKp
 refine Fact.then_normal ?_
 exact ⟨_, by have := HK2.out; omega, k + 1, _, rfl, by omega, hf, s1, s3, s5, s9, s10, s11, s25, s26, by rw [s27]; rfl, HOA3.out, hb6.trans (hb7.mono hb6.size)⟩))
 · (
 have hke : k = s.arcs.length := by have h9 := of_decide_eq_false hq2; omega
 have hoa2 : okArcs i (-1) s.arcs = true := by rw [HOA.out, hke, List.drop_length]; rfl
 have HOA2 := Lib.hid hoa2; clear hoa2 hke hq2
 have hbr := hb.trans ((hb5.trans (hb6.mono hb5.size)).mono hb.size)
 refine wp_exit ?_
 refine Fact.then_exit ?_
 refine Fact.then_exit ?_
 refine Fact.block_exit ?_
 refine Fact.block_normal ?_
 refine nx (hK6 _ _ ?_)
 refine rg ?_
 have b51 := hf.b 51
 refine fp fun K Z => ?_
 go_simp
 try simp (disch := omega) only [Fact.W]
 apply Z.out; clear Z K
 refine fp fun K Z => ?_
 go_simp
 apply Z.out; clear Z K
 refine Fact.z hf fun fr1 hf1 hT => ?_
 have hKp : _ ∧ _ ∧ _ ∧ _ := ⟨hT 1, hT 9, hT 10, hT 11⟩
 simp (decide := true) only [Fact.G, hf.size, reduceIte, s1, s9, s10] at hKp
 replace hf := hf1; clear hT hf1 s1 s3 s5 s9 s10 s11 s25 s26 s27 s28 b51
 obtain ⟨s1, s9, s10, s11⟩ := hKp
 refine Fact.then_normal ?_
 exact ⟨_, by have := HK.out; omega, i + 1, rfl, by omega, hf, s1, s9, s10, by rw [s11]; rfl, by rw [HM.out, HST.out, HFO.out, HOA2.out]; rfl, hbr⟩))))
 · (
 have hie : i = ss.length := by have h9 := of_decide_eq_false hq; omega
 have HIE := Lib.hid hie; clear hie hq
 have e0 := cL hb c0
 refine wp_exit ?_
 refine Fact.then_exit ?_
 refine Fact.then_exit ?_
 refine Fact.block_exit ?_
 refine nx (hK2 _ _ ?_)
 refine Fact.sq fun K34 hK34 => ?_
 refine rg ?_
 have b52 := hf.b 52
 have b53 := hf.b 53
 have b54 := hf.b 54
 have b55 := hf.b 55
 refine fp fun K Z => ?_
 go_simp
 apply Z.out; clear Z K
 refine fp fun K Z => ?_
 go_simp
 apply Z.out; clear Z K
 refine fp fun K Z => ?_
 go_simp
 apply Z.out; clear Z K
 refine fp fun K Z => ?_
 go_simp
 apply Z.out; clear Z K
 refine fp fun K Z => ?_
 go_simp
 apply Z.out; clear Z K
 refine Fact.z hf fun fr1 hf1 hT => ?_
 have hKp := hT 2
 simp (decide := true) only [Fact.G, hf.size, reduceIte] at hKp
 replace hf := hf1; clear hT hf1 s1 s9 s10 s11 s12 b52 b53 b54 b55
 have s2 := hKp; clear hKp
 refine nx (hK34 _ _ ?_)
 refine wp_ret ?_
 refine Fact.ret1 rfl hf s2 ⟨?_, hb0.trans (hb.mono hb0.size)⟩
 rw [formedF, HM.out, HIE.out, List.drop_length]
 rfl))
end Dw
end Go.Proofs.YtgjfhedgdbbinaaDoor
