/- Dawg: Right. -/
import Derived.Test.YtgjfhedgdbbinaaDoorDOrd
import Derived.Test.YtgjfhedgdbbinaaDoorTools
namespace Go.Proofs.YtgjfhedgdbbinaaDoor
open Go.RowKit
set_option linter.unusedSimpArgs false
set_option linter.unusedVariables false
set_option linter.unnecessarySimpa false
namespace Dw

open Go.Maps
theorem okArcs_all : ∀ (l : List Arc) (i : Nat) (last : Int), okArcs i last l = true → ∀ a ∈ l, 0 ≤ a.to ∧ a.to < (i : Int)
  | [], _, _, _ => by simp
  | a :: l, i, last, h => by
    simp only [okArcs, Bool.and_eq_true, decide_eq_true_eq] at h
    intro x hx
    rcases List.mem_cons.1 hx with rfl | hx
    · exact ⟨h.1.1.1, h.1.1.2⟩
    · exact okArcs_all l i _ h.2 x hx
theorem okArcs_len : ∀ (l : List Arc) (i : Nat) (last : Int), okArcs i last l = true → (∀ a ∈ l, a.byte < 256) → -1 ≤ last → last ≤ 255 → (l.length : Int) ≤ 255 - last
  | [], _, _, _, _, _, h => by simp; omega
  | a :: l, i, last, h, hb, h1, h2 => by
    simp only [okArcs, Bool.and_eq_true, decide_eq_true_eq] at h
    have h3 := hb a (List.mem_cons_self ..)
    have := okArcs_len l i (a.byte : Int) h.2 (fun x hx => hb x (List.mem_cons_of_mem _ hx)) (by omega) (by omega)
    simp only [List.length_cons]
    omega
theorem formedL_all : ∀ (l : List State) (i : Nat), formedL i l = true → ∀ (j : Nat) (s : State), l[j]? = some s → okArcs (i + j) (-1) s.arcs = true
  | [], _, _, j, s, hj => by simp at hj
  | x :: l, i, h, j, s, hj => by
    simp only [formedL, Bool.and_eq_true] at h
    cases j with
    | zero => injection hj with hj; subst hj; exact h.1.2
    | succ j => rw [show i + (j + 1) = (i + 1) + j by omega]; exact formedL_all l (i + 1) h.2 j s hj
theorem formed_at {ss : List State} (h : formedF ss = true) {j : Nat} {s : State} (hj : ss[j]? = some s) : okArcs j (-1) s.arcs = true := by
  unfold formedF at h
  rw [Bool.and_eq_true] at h
  have := formedL_all ss 0 h.1 j s hj
  rwa [Nat.zero_add] at this
theorem formed_pos {ss : List State} (h : formedF ss = true) : 0 < ss.length := by
  unfold formedF at h
  rw [Bool.and_eq_true] at h
  exact of_decide_eq_true h.2
theorem formed_ahead {ss : List State} (h : formedF ss = true) : Ahead ss := by
  intro s a ha
  unfold arcsOf at ha
  cases hs : ss[s]? with
  | none => rw [hs] at ha; simp at ha
  | some st => rw [hs] at ha; exact okArcs_all _ _ _ (formed_at h hs) a (by simpa using ha)
theorem formed_okK {ss : List State} (h : formedF ss = true) (hok : ∀ s ∈ ss, okS s) : ∀ s ∈ ss, okK s := by
  intro s hs
  obtain ⟨j, hj⟩ := List.mem_iff_getElem?.1 hs
  have h1 := formed_at h hj
  have h2 := hok s hs
  refine ⟨h2, fun a ha => (okArcs_all _ _ _ h1 a ha).1, ?_⟩
  have := okArcs_len _ _ _ h1 (fun a ha => (h2.2.2 a ha).1) (by omega) (by omega)
  omega
theorem getLast_of {ss : List State} {r : State} (h : ss[ss.length - 1]? = some r) : ss.getLast? = some r := by rw [List.getLast?_eq_getElem?]; exact h
def ownR (base : Nat) (k : Nat) : Nat := if k < base then 4 else if k = base then 3 else if k = base + 1 then 1 else 0
theorem Reg.start (w0 : World) {W : World} (hW : (w0.alloc (.map #[] 0)).alloc (.cells #[.slice none 0 0, .map (some w0.heap.size)] 72) = W) :
    Reg W w0.heap.size (ownR w0.heap.size) (w0.heap.size + 1) 72 [] (.slice none 0 0) w0.heap.size [] ∧ Below w0.heap.size w0 W := by
  have hbb : Below w0.heap.size w0 W := by rw [← hW]; exact ((Below.refl _ _).alloc (Nat.le_refl _) _).alloc (by simp) _
  have h1 := World.ownsMap_made w0 Tryd.prog 9 (plainElem (H := Unit) Tryd.prog 3)
  have hm2 := h1.alloc (.cells #[.slice none 0 0, .map (some w0.heap.size)] 72)
  rw [hW] at hm2
  have hbx : W.heap[w0.heap.size + 1]? = some (.cells #[.slice none 0 0, .map (some w0.heap.size)] 72 (0, 0)) := by
    have := heap_alloc_new (w0.alloc (.map #[] 0)) (.cells #[.slice none 0 0, .map (some w0.heap.size)] 72)
    rw [hW] at this
    rw [← this]
    simp
  have o2 : ownR w0.heap.size w0.heap.size = 3 := by unfold ownR; rw [if_neg (by omega), if_pos rfl]
  have o4 : ownR w0.heap.size (w0.heap.size + 1) = 1 := by unfold ownR; rw [if_neg (by omega), if_neg (by omega), if_pos rfl]
  exact ⟨⟨fun k hk => if_pos hk, hbx, o4, o2, hm2, ⟨[], World.ownsRow_nil _ _ _ _, (fun k hk => by cases hk), fun i s hi => by simp at hi⟩, List.Pairwise.nil, by simp⟩, hbb⟩
set_option maxHeartbeats 4000000 in
set_option maxRecDepth 100000 in
theorem right9 (w : World) (sv : Value) (init : Nat) (ss : List State) (hrs : RS w sv ss) (hok : ∀ s ∈ ss, okS s) (hlen : ss.length ≤ 1000000) : Calls Tryd.prog 9 #[.agg #[sv, .int .u64 init]] w fun e w1 => e = .returned (.bool (rightF ss init)) ∧ Below w.heap.size w w1 := by
 refine calls_of_wp Tryd.func9 rfl ?_
 refine Fact.en 72 fun fr hf hT => ?_
 have s0 := hT 0 _ rfl
 clear hT
 obtain ⟨A, cc, rfl, hcc⟩ := hrs.form
 have hlen0 := hlen
 have HO := Lib.hid hok; clear hok
 refine Fact.sq fun K1 hK1 => ?_
 refine rg ?_
 refine fp fun K Z => ?_
 go_simp
 apply Z.out; clear Z K
 refine fp fun K Z => ?_
 go_simp
 apply Z.out; clear Z K
 refine Fact.z hf fun fr1 hf1 hT => ?_
 have hKp := hT 1
 simp (decide := true) only [Fact.G, hf.size, reduceIte] at hKp
 replace hf := hf1; clear hT hf1 s0
 have s1 := hKp; clear hKp
 obtain ⟨W0, hW0⟩ : ∃ W0, w.alloc (.cells #[.slice A ss.length cc, .int .u64 init] 33) = W0 := ⟨_, rfl⟩
 try rw [hW0]
 obtain ⟨hb0, c0, c1, -, hz0_⟩ := box2 hW0
 clear hW0
 have hz0 : w.heap.size < W0.heap.size := by rw [hz0_]; exact Nat.lt_succ_self _
 clear hz0_
 have hr0 := hrs.later hb0
 clear hrs
 refine nx (hK1 _ _ ?_)
 refine Fact.sq fun K2 hK2 => ?_
 refine Fact.sq fun K3 hK3 => ?_
 refine rg ?_
 have b8 := hf.b 8
 have b9 := hf.b 9
 refine fp fun K Z => ?_
 go_simp
 apply Z.out; clear Z K
 refine fp fun K Z => ?_
 go_simp
 go_at_call 32; refine (formed32 W0 _ init ss hr0 HO.out hlen).mono ?_; rintro e w1 ⟨rfl, hb1⟩
 try dsimp only
 apply Z.out; clear Z K
 refine fp fun K Z => ?_
 go_simp
 apply Z.out; clear Z K
 refine Fact.z hf fun fr1 hf1 hT => ?_
 have hKp : _ ∧ _ := ⟨hT 1, hT 10⟩
 simp (decide := true) only [Fact.G, hf.size, reduceIte, s1] at hKp
 replace hf := hf1; clear hT hf1 s1 b8 b9
 obtain ⟨s1, s10⟩ := hKp
 have hr1 := hr0.later hb1
 replace c0 := cL hb1 c0; replace c1 := cL hb1 c1
 have hbw := hb0.trans (hb1.mono hb0.size)
 have hzw : w.heap.size < w1.heap.size := by have := hb1.size; omega
 clear hr0 hb1
 refine nx (hK3 _ _ ?_)
 rcases hfm : formedF ss with _ | _
 · (
 have HFM := Lib.hid hfm; clear hfm
 have q10 : fr1.tmps[10]? = some (.bool true) := by rw [s10, HFM.out]; rfl
 clear s10
 have s10 := q10; clear q10
 refine Fact.cond_t s10 ?_
 refine Fact.sq fun K4 hK4 => ?_
 refine rg ?_
 refine fp fun K Z => ?_
 go_simp
 apply Z.out; clear Z K
 refine Fact.z hf fun fr1 hf1 hT => ?_
 have hKp := hT 2
 simp (decide := true) only [Fact.G, hf.size, reduceIte] at hKp
 replace hf := hf1; clear hT hf1 s1 s10
 have s2 := hKp; clear hKp
 refine nx (hK4 _ _ ?_)
 refine wp_ret ?_
 refine Fact.then_ret ?_
 exact Fact.ret1 rfl hf s2 ⟨by rw [rightF, HFM.out]; rfl, hbw⟩)
 · (
 have hkk := formed_okK hfm HO.out
 have h0 := formed_pos hfm
 have hA := formed_ahead hfm
 have HFM := Lib.hid hfm; clear hfm
 have q10 : fr1.tmps[10]? = some (.bool false) := by rw [s10, HFM.out]; rfl
 clear s10
 have s10 := q10; clear q10
 refine Fact.cond_f s10 ?_
 obtain ⟨root, hroot⟩ : ∃ root, ss[ss.length - 1]? = some root := ⟨_, List.getElem?_eq_getElem (by omega)⟩
 have hn1 : ((ss.length : Int) - 1) = ((ss.length - 1 : Nat) : Int) := by omega
 obtain ⟨b, off, av, rfl, hat⟩ := hr1.at_ hroot
 have d0 := hat.c0; have d1 := hat.c1; have d2 := hat.c2
 obtain ⟨Ar, cr, rfl, _⟩ := hat.arcs.form
 have HN1 := Lib.hid hn1; have HR := Lib.hid hroot; have HKK := Lib.hid hkk; clear hn1 hroot hkk hat
 obtain ⟨RE, hRE⟩ : ∃ x, (!root.final && decide (root.arcs.length = 0)) = x := ⟨_, rfl⟩
 have HRE := Lib.hid hRE; clear hRE
 have hrf : rightF ss init = if RE then decide (ss.length = 1) && decide (init = 0) else orderedF ss && allGood ss 0 ss := by rw [rightF, HFM.out, getLast_of HR.out, ← HRE.out]; rfl
 have HRF := Lib.hid hrf; clear hrf
 refine wp_skip ?_
 refine nx (hK2 _ _ ?_)
 refine Fact.sq fun K5 hK5 => ?_
 refine rg ?_
 have b11 := hf.b 11
 have b12 := hf.b 12
 have b13 := hf.b 13
 have b14 := hf.b 14
 have b15 := hf.b 15
 have b16 := hf.b 16
 have b17 := hf.b 17
 have b18 := hf.b 18
 have b3 := hf.b 3
 refine fp fun K Z => ?_
 go_simp
 apply Z.out; clear Z K
 refine fp fun K Z => ?_
 go_simp
 apply Z.out; clear Z K
 refine fp fun K Z => ?_
 go_simp
 apply Z.out; clear Z K
 refine fp fun K Z => ?_
 go_simp
 apply Z.out; clear Z K
 refine fp fun K Z => ?_
 go_simp
 apply Z.out; clear Z K
 refine fp fun K Z => ?_
 go_simp
 try simp (disch := omega) only [Fact.W]
 rw [HN1.out]
 apply Z.out; clear Z K
 refine fp fun K Z => ?_
 go_simp
 try rw [if_pos (by omega)]
 apply Z.out; clear Z K
 refine fp fun K Z => ?_
 go_simp
 apply Z.out; clear Z K
 refine fp fun K Z => ?_
 go_simp
 apply Z.out; clear Z K
 refine fp fun K Z => ?_
 go_simp
 apply Z.out; clear Z K
 refine Fact.z hf fun fr1 hf1 hT => ?_
 have hKp : _ ∧ _ := ⟨hT 1, hT 3⟩
 simp (decide := true) only [Fact.G, hf.size, reduceIte, s1] at hKp
 replace hf := hf1; clear hT hf1 s1 s10 b11 b12 b13 b14 b15 b16 b17 b18 b3
 obtain ⟨s1, s3⟩ := hKp
 obtain ⟨W2, hW2⟩ : ∃ W0, w1.alloc (.cells #[.slice Ar root.arcs.length cr, .bool root.final, .int .u64 root.out] 61) = W0 := ⟨_, rfl⟩
 try rw [hW2]
 obtain ⟨hb2, x0, x1, -, -, -⟩ := box3 hW2
 clear hW2
 clear d0 d1 d2
 have hr2 := hr1.later hb2
 replace c0 := cL hb2 c0; replace c1 := cL hb2 c1
 have hbw2 := hbw.trans (hb2.mono (by have := hb0.size; omega))
 have hzw2 : w.heap.size < W2.heap.size := by have := hb2.size; omega
 clear hr1 hb2 hbw
 refine nx (hK5 _ _ ?_)
 refine Fact.seq_meet (fun fr wq => Fact.Fr 72 fr ∧ fr.tmps[1]? = some (.pointer (some ⟨w.heap.size, 0, none⟩)) ∧ wq = W2 ∧ RE = false) ?_ ?_
 · (
 rcases hfin : root.final with _ | _
 · (
 have HFI := Lib.hid hfin; clear hfin
 have q1 := HFI.out
 by_cases hemp : root.arcs.length = 0
 · (
 have HEM := Lib.hid hemp; clear hemp
 have q2 : ((root.arcs.length : Int) == 0) = true := by have h9 := HEM.out; rw [beq_iff_eq]; omega
 have hrev : RE = true := by rw [← HRE.out, HFI.out, decide_eq_true HEM.out]; rfl
 have HREV := Lib.hid hrev; clear hrev
 refine Fact.sq fun K6 hK6 => ?_
 refine rg ?_
 have b19 := hf.b 19
 have b20 := hf.b 20
 have b21 := hf.b 21
 have b22 := hf.b 22
 have b23 := hf.b 23
 have b24 := hf.b 24
 have b25 := hf.b 25
 have b26 := hf.b 26
 refine fp fun K Z => ?_
 go_simp
 apply Z.out; clear Z K
 refine fp fun K Z => ?_
 go_simp
 apply Z.out; clear Z K
 refine fp fun K Z => ?_
 go_simp
 apply Z.out; clear Z K
 refine fp fun K Z => ?_
 go_simp
 apply Z.out; clear Z K
 refine og 3 22 true ?_ fun K Z => ?_
 · (
 simp (decide := true) only [Fact.G, reduceIte, hf.size, q1, q2])
 go_simp
 apply Z.out; clear Z K
 refine og 3 22 true ?_ fun K Z => ?_
 · (
 simp (decide := true) only [Fact.G, reduceIte, hf.size, q1, q2])
 go_simp
 apply Z.out; clear Z K
 refine og 3 22 true ?_ fun K Z => ?_
 · (
 simp (decide := true) only [Fact.G, reduceIte, hf.size, q1, q2])
 go_simp
 apply Z.out; clear Z K
 refine og 3 22 true ?_ fun K Z => ?_
 · (
 simp (decide := true) only [Fact.G, reduceIte, hf.size, q1, q2])
 go_simp
 apply Z.out; clear Z K
 refine fp fun K Z => ?_
 go_simp
 apply Z.out; clear Z K
 refine Fact.z hf fun fr1 hf1 hT => ?_
 have hKp : _ ∧ _ := ⟨hT 1, hT 27⟩
 simp (decide := true) only [Fact.G, hf.size, reduceIte, s1] at hKp
 replace hf := hf1; clear hT hf1 s1 s3 b19 b20 b21 b22 b23 b24 b25 b26
 obtain ⟨s1, s27⟩ := hKp
 refine nx (hK6 _ _ ?_)
 refine Fact.cond_t s27 ?_
 have hre : rightF ss init = (decide (ss.length = 1) && decide (init = 0)) := by rw [HRF.out, HREV.out]; rfl
 have HQ := Lib.hid hre; clear hre
 by_cases h1 : ss.length = 1
 · (
 have H1 := Lib.hid h1; clear h1
 have q1 : ((ss.length : Int) == 1) = true := by have := H1.out; simp; omega
 refine Fact.sq fun K7 hK7 => ?_
 refine rg ?_
 have b28 := hf.b 28
 have b29 := hf.b 29
 have b30 := hf.b 30
 have b31 := hf.b 31
 have b32 := hf.b 32
 have b33 := hf.b 33
 have b34 := hf.b 34
 have b35 := hf.b 35
 have b36 := hf.b 36
 refine fp fun K Z => ?_
 go_simp
 apply Z.out; clear Z K
 refine fp fun K Z => ?_
 go_simp
 apply Z.out; clear Z K
 refine fp fun K Z => ?_
 go_simp
 apply Z.out; clear Z K
 refine fp fun K Z => ?_
 go_simp
 apply Z.out; clear Z K
 refine fp fun K Z => ?_
 go_simp
 apply Z.out; clear Z K
 refine og 4 32 true ?_ fun K Z => ?_
 · (
 simp (decide := true) only [Fact.G, reduceIte, hf.size, q1])
 go_simp
 apply Z.out; clear Z K
 refine og 4 32 true ?_ fun K Z => ?_
 · (
 simp (decide := true) only [Fact.G, reduceIte, hf.size, q1])
 go_simp
 apply Z.out; clear Z K
 refine og 4 32 true ?_ fun K Z => ?_
 · (
 simp (decide := true) only [Fact.G, reduceIte, hf.size, q1])
 go_simp
 apply Z.out; clear Z K
 refine fp fun K Z => ?_
 go_simp
 apply Z.out; clear Z K
 refine fp fun K Z => ?_
 go_simp
 apply Z.out; clear Z K
 refine Fact.z hf fun fr1 hf1 hT => ?_
 have hKp := hT 2
 simp (decide := true) only [Fact.G, hf.size, reduceIte] at hKp
 replace hf := hf1; clear hT hf1 s1 s27 b28 b29 b30 b31 b32 b33 b34 b35 b36
 have s2 := hKp; clear hKp
 refine nx (hK7 _ _ ?_)
 refine wp_ret ?_
 refine Fact.then_ret ?_
 refine Fact.ret1 rfl hf s2 ⟨?_, hbw2⟩
 rw [HQ.out, decide_eq_true H1.out]
 rw [← beq_nat init 0]; rfl)
 · (
 have H1 := Lib.hid h1; clear h1
 have q1 : ((ss.length : Int) == 1) = false := by have := H1.out; simp; omega
 refine Fact.sq fun K8 hK8 => ?_
 refine rg ?_
 have b28 := hf.b 28
 have b29 := hf.b 29
 have b30 := hf.b 30
 have b31 := hf.b 31
 have b32 := hf.b 32
 have b33 := hf.b 33
 have b34 := hf.b 34
 have b35 := hf.b 35
 have b36 := hf.b 36
 refine fp fun K Z => ?_
 go_simp
 apply Z.out; clear Z K
 refine fp fun K Z => ?_
 go_simp
 apply Z.out; clear Z K
 refine fp fun K Z => ?_
 go_simp
 apply Z.out; clear Z K
 refine fp fun K Z => ?_
 go_simp
 apply Z.out; clear Z K
 refine fp fun K Z => ?_
 go_simp
 apply Z.out; clear Z K
 refine sk 4 32 true ?_ ?_
 · (
 simp (decide := true) only [Fact.G, reduceIte, hf.size, q1, Fact.N])
 refine sk 4 32 true ?_ ?_
 · (
 simp (decide := true) only [Fact.G, reduceIte, hf.size, q1, Fact.N])
 refine sk 4 32 true ?_ ?_
 · (
 simp (decide := true) only [Fact.G, reduceIte, hf.size, q1, Fact.N])
 refine fp fun K Z => ?_
 go_simp
 apply Z.out; clear Z K
 refine fp fun K Z => ?_
 go_simp
 apply Z.out; clear Z K
 refine Fact.z hf fun fr1 hf1 hT => ?_
 have hKp := hT 2
 simp (decide := true) only [Fact.G, hf.size, reduceIte] at hKp
 replace hf := hf1; clear hT hf1 s1 s27 b28 b29 b30 b31 b32 b33 b34 b35 b36
 have s2 := hKp; clear hKp
 refine nx (hK8 _ _ ?_)
 refine wp_ret ?_
 refine Fact.then_ret ?_
 refine Fact.ret1 rfl hf s2 ⟨?_, hbw2⟩
 rw [HQ.out, decide_eq_false H1.out]
 rfl))
 · (
 have HEM := Lib.hid hemp; clear hemp
 have q2 : ((root.arcs.length : Int) == 0) = false := by have h9 := HEM.out; rw [beq_eq_false_iff_ne]; omega
 have hrev : RE = false := by rw [← HRE.out, HFI.out, decide_eq_false HEM.out]; rfl
 have HREV := Lib.hid hrev; clear hrev
 refine Fact.sq fun K9 hK9 => ?_
 refine rg ?_
 have b19 := hf.b 19
 have b20 := hf.b 20
 have b21 := hf.b 21
 have b22 := hf.b 22
 have b23 := hf.b 23
 have b24 := hf.b 24
 have b25 := hf.b 25
 have b26 := hf.b 26
 refine fp fun K Z => ?_
 go_simp
 apply Z.out; clear Z K
 refine fp fun K Z => ?_
 go_simp
 apply Z.out; clear Z K
 refine fp fun K Z => ?_
 go_simp
 apply Z.out; clear Z K
 refine fp fun K Z => ?_
 go_simp
 apply Z.out; clear Z K
 refine og 3 22 true ?_ fun K Z => ?_
 · (
 simp (decide := true) only [Fact.G, reduceIte, hf.size, q1, q2])
 go_simp
 apply Z.out; clear Z K
 refine og 3 22 true ?_ fun K Z => ?_
 · (
 simp (decide := true) only [Fact.G, reduceIte, hf.size, q1, q2])
 go_simp
 apply Z.out; clear Z K
 refine og 3 22 true ?_ fun K Z => ?_
 · (
 simp (decide := true) only [Fact.G, reduceIte, hf.size, q1, q2])
 go_simp
 apply Z.out; clear Z K
 refine og 3 22 true ?_ fun K Z => ?_
 · (
 simp (decide := true) only [Fact.G, reduceIte, hf.size, q1, q2])
 go_simp
 apply Z.out; clear Z K
 refine fp fun K Z => ?_
 go_simp
 apply Z.out; clear Z K
 refine Fact.z hf fun fr1 hf1 hT => ?_
 have hKp : _ ∧ _ := ⟨hT 1, hT 27⟩
 simp (decide := true) only [Fact.G, hf.size, reduceIte, s1] at hKp
 replace hf := hf1; clear hT hf1 s1 s3 b19 b20 b21 b22 b23 b24 b25 b26
 obtain ⟨s1, s27⟩ := hKp
 refine nx (hK9 _ _ ?_)
 refine Fact.cond_f s27 ?_
 clear q1 q2
 refine wp_skip ?_
 refine Fact.then_normal ?_
 exact ⟨hf, s1, rfl, HREV.out⟩))
 · (
 have HFI := Lib.hid hfin; clear hfin
 have q1 := HFI.out
 have hrev : RE = false := by rw [← HRE.out, HFI.out]; rfl
 have HREV := Lib.hid hrev; clear hrev
 refine Fact.sq fun K10 hK10 => ?_
 refine rg ?_
 have b19 := hf.b 19
 have b20 := hf.b 20
 have b21 := hf.b 21
 have b22 := hf.b 22
 have b23 := hf.b 23
 have b24 := hf.b 24
 have b25 := hf.b 25
 have b26 := hf.b 26
 refine fp fun K Z => ?_
 go_simp
 apply Z.out; clear Z K
 refine fp fun K Z => ?_
 go_simp
 apply Z.out; clear Z K
 refine fp fun K Z => ?_
 go_simp
 apply Z.out; clear Z K
 refine fp fun K Z => ?_
 go_simp
 apply Z.out; clear Z K
 refine sk 3 22 true ?_ ?_
 · (
 simp (decide := true) only [Fact.G, reduceIte, hf.size, q1, Fact.N])
 refine sk 3 22 true ?_ ?_
 · (
 simp (decide := true) only [Fact.G, reduceIte, hf.size, q1, Fact.N])
 refine sk 3 22 true ?_ ?_
 · (
 simp (decide := true) only [Fact.G, reduceIte, hf.size, q1, Fact.N])
 refine sk 3 22 true ?_ ?_
 · (
 simp (decide := true) only [Fact.G, reduceIte, hf.size, q1, Fact.N])
 refine fp fun K Z => ?_
 go_simp
 apply Z.out; clear Z K
 refine Fact.z hf fun fr1 hf1 hT => ?_
 have hKp : _ ∧ _ := ⟨hT 1, hT 27⟩
 simp (decide := true) only [Fact.G, hf.size, reduceIte, s1] at hKp
 replace hf := hf1; clear hT hf1 s1 s3 b19 b20 b21 b22 b23 b24 b25 b26
 obtain ⟨s1, s27⟩ := hKp
 refine nx (hK10 _ _ ?_)
 refine Fact.cond_f s27 ?_
 clear q1
 refine wp_skip ?_
 refine Fact.then_normal ?_
 exact ⟨hf, s1, rfl, HREV.out⟩))
 · (
 clear hf s1 s3
 rintro fr wq ⟨hf, s1, hw, hrev⟩
 subst wq
 have HREV := Lib.hid hrev; clear hrev
 have hre : rightF ss init = (orderedF ss && allGood ss 0 ss) := by rw [HRF.out, HREV.out]; rfl
 have HQ := Lib.hid hre; clear hre
 refine Fact.sq fun K11 hK11 => ?_
 refine Fact.sq fun K12 hK12 => ?_
 refine rg ?_
 have b37 := hf.b 37
 have b38 := hf.b 38
 refine fp fun K Z => ?_
 go_simp
 apply Z.out; clear Z K
 refine fp fun K Z => ?_
 go_simp
 go_at_call 33; refine (ordered33 W2 _ init ss hr2 HO.out hlen h0 hA).mono ?_; rintro e w3 ⟨rfl, hb3⟩
 try dsimp only
 apply Z.out; clear Z K
 refine fp fun K Z => ?_
 go_simp
 apply Z.out; clear Z K
 refine Fact.z hf fun fr1 hf1 hT => ?_
 have hKp : _ ∧ _ := ⟨hT 1, hT 39⟩
 simp (decide := true) only [Fact.G, hf.size, reduceIte, s1] at hKp
 replace hf := hf1; clear hT hf1 s1 b37 b38
 obtain ⟨s1, s39⟩ := hKp
 have hr3 := hr2.later hb3
 replace c0 := cL hb3 c0
 have hbw3 := hbw2.trans (hb3.mono (by omega))
 have hzw3 : w.heap.size < w3.heap.size := by have := hb3.size; omega
 clear hr2 hb3 hbw2 c1 x0 x1
 refine nx (hK12 _ _ ?_)
 rcases hof : orderedF ss with _ | _
 · (
 have HOF := Lib.hid hof; clear hof
 have q39 : fr1.tmps[39]? = some (.bool true) := by rw [s39, HOF.out]; rfl
 clear s39
 have s39 := q39; clear q39
 refine Fact.cond_t s39 ?_
 refine Fact.sq fun K13 hK13 => ?_
 refine rg ?_
 refine fp fun K Z => ?_
 go_simp
 apply Z.out; clear Z K
 refine Fact.z hf fun fr1 hf1 hT => ?_
 have hKp := hT 2
 simp (decide := true) only [Fact.G, hf.size, reduceIte] at hKp
 replace hf := hf1; clear hT hf1 s1 s39
 have s2 := hKp; clear hKp
 refine nx (hK13 _ _ ?_)
 refine wp_ret ?_
 refine Fact.then_ret ?_
 exact Fact.ret1 rfl hf s2 ⟨by rw [HQ.out, HOF.out]; rfl, hbw3⟩)
 · (
 have HOF := Lib.hid hof; clear hof
 have q39 : fr1.tmps[39]? = some (.bool false) := by rw [s39, HOF.out]; rfl
 clear s39
 have s39 := q39; clear q39
 refine Fact.cond_f s39 ?_
 have hmm := @run_makeMap Tryd.prog
 refine wp_skip ?_
 refine nx (hK11 _ _ ?_)
 refine Fact.sq fun K14 hK14 => ?_
 refine rg ?_
 have b40 := hf.b 40
 have b41 := hf.b 41
 have b4 := hf.b 4
 refine fp fun K Z => ?_
 go_simp
 apply Z.out; clear Z K
 refine fp fun K Z => ?_
 go_simp
 apply Z.out; clear Z K
 refine fp fun K Z => ?_
 go_simp
 apply Z.out; clear Z K
 refine fp fun K Z => ?_
 go_simp
 apply Z.out; clear Z K
 refine Fact.z hf fun fr1 hf1 hT => ?_
 have hKp : _ ∧ _ := ⟨hT 1, hT 4⟩
 simp (decide := true) only [Fact.G, hf.size, reduceIte, s1] at hKp
 replace hf := hf1; clear hT hf1 s1 s39 b40 b41 b4
 obtain ⟨s1, s4⟩ := hKp
 clear hmm
 obtain ⟨W4, hW4⟩ : ∃ W4, (w3.alloc (.map #[] 0)).alloc (.cells #[.slice none 0 0, .map (some w3.heap.size)] 72) = W4 := ⟨_, rfl⟩
 try rw [hW4]
 try simp only [World.size_alloc] at s4
 obtain ⟨hg4, hb4⟩ := Reg.start w3 hW4
 clear hW4
 have c4 := cL hb4 c0
 obtain ⟨own4, hown4⟩ : ∃ f, ownR w3.heap.size = f := ⟨_, rfl⟩
 rw [hown4] at hg4
 clear hown4
 refine nx (hK14 _ _ ?_)
 refine Fact.sq fun K15 hK15 => ?_
 refine Fact.sq fun K16 hK16 => ?_
 refine rg ?_
 have b42 := hf.b 42
 have b43 := hf.b 43
 refine fp fun K Z => ?_
 go_simp
 apply Z.out; clear Z K
 refine fp fun K Z => ?_
 go_simp
 apply Z.out; clear Z K
 refine fp fun K Z => ?_
 go_simp
 apply Z.out; clear Z K
 refine fp fun K Z => ?_
 go_simp
 apply Z.out; clear Z K
 refine Fact.z hf fun fr1 hf1 hT => ?_
 have hKp : _ ∧ _ ∧ _ ∧ _ := ⟨hT 4, hT 43, hT 44, hT 45⟩
 simp (decide := true) only [Fact.G, hf.size, reduceIte, s4] at hKp
 replace hf := hf1; clear hT hf1 s1 s4 b42 b43
 obtain ⟨s4, s43, s44, s45⟩ := hKp
 refine nx (hK16 _ _ ?_)
 refine wp_block ?_
 clear c4
 refine wp_loop_ghost (fun gk fr wr => ∃ (i : Nat) (ownr : Nat → Nat) (svr : Value), gk = ss.length - i ∧ i ≤ ss.length ∧ Fact.Fr 72 fr ∧ fr.tmps[4]? = some (.pointer (some ⟨w3.heap.size + 1, 0, none⟩)) ∧ fr.tmps[43]? = some (.slice (some ⟨b, off, none⟩) ss.length cc) ∧ fr.tmps[44]? = some (.int .i64 ss.length) ∧ fr.tmps[45]? = some (.int .i64 i) ∧ Reg wr w3.heap.size ownr (w3.heap.size + 1) 72 [] svr w3.heap.size (ss.take i) ∧ allGood ss 0 ss = allGood ss i (ss.drop i) ∧ Below w3.heap.size w3 wr) (ss.length) ?_ ?_
 · (
 exact ⟨0, own4, _, rfl, Nat.zero_le _, hf, s4, s43, s44, s45, hg4, rfl, hb4⟩)
 · (
 clear hf s4 s43 s44 s45
 rintro gk fr wr ⟨i, ownr, svr, hk, hi, hf, s4, s43, s44, s45, hgr, hag, hb⟩
 have HK := Lib.hid hk; have HAG := Lib.hid hag; clear hk hag hg4 hb4
 refine Fact.sq fun K17 hK17 => ?_
 refine rg ?_
 refine fp fun K Z => ?_
 go_simp
 apply Z.out; clear Z K
 refine Fact.z hf fun fr1 hf1 hT => ?_
 have hKp : _ ∧ _ ∧ _ ∧ _ ∧ _ := ⟨hT 4, hT 43, hT 44, hT 45, hT 46⟩
 simp (decide := true) only [Fact.G, hf.size, reduceIte, s4, s43, s44, s45] at hKp
 replace hf := hf1; clear hT hf1 s4 s43 s44 s45
 obtain ⟨s4, s43, s44, s45, s46⟩ := hKp
 refine nx (hK17 _ _ ?_)
 refine Fact.sq fun K18 hK18 => ?_
 refine Fact.cond_s s46 (fun hq => ?_) (fun hq => ?_)
 · (
 have hlt : i < ss.length := by have h9 := of_decide_eq_true hq; omega
 have HQ0 := Lib.hid hq; clear hq
 obtain ⟨s, his⟩ : ∃ s, ss[i]? = some s := ⟨_, List.getElem?_eq_getElem hlt⟩
 obtain ⟨b5, off5, av5, he5, hat⟩ := hr3.at_ his
 injection he5 with he5
 injection he5 with he5 he6
 subst he5; subst he6
 have hsat := hat.later hb
 have d0 := hsat.c0; have d1 := hsat.c1; have d2 := hsat.c2
 obtain ⟨A5, c5, rfl, _⟩ := hat.arcs.form
 have hks := HKK.out s (List.mem_of_getElem? his)
 have hsl := hks.few
 have hgs := allGood_step his
 have HS := Lib.hid his; have HGS := Lib.hid hgs; clear his hgs
 have hgb := hgr.base_le
 have hra : RA wr (fun k => ownr k = 4) (.slice A5 s.arcs.length c5) s.arcs := (hat.arcs.more (fun k hk _ => hgr.lo k hk)).later hb
 have hras := hat.arcs.later hb
 clear hat hsat
 obtain ⟨own0, hown0⟩ : ∃ f, (fun k => if k < wr.heap.size then ownr k else 0) = f := ⟨_, rfl⟩
 have h0lt : ∀ k, k < wr.heap.size → own0 k = ownr k := fun k hk => by rw [← hown0]; exact if_pos hk
 have hg0 := hgr.told (own' := own0) (fun k hk => by rw [h0lt k (by omega)]; exact hgr.lo k hk) (fun k hk _ _ => h0lt k hk)
 replace hra : RA wr (fun k => own0 k = 4) (.slice A5 s.arcs.length c5) s.arcs := hra.more (fun k hk h4 => by rw [h0lt k hk]; exact h4)
 clear hgr h0lt hown0
 refine wp_skip ?_
 refine nx (hK18 _ _ ?_)
 refine Fact.sq fun K19 hK19 => ?_
 refine wp_block ?_
 refine Fact.sq fun K20 hK20 => ?_
 refine rg ?_
 have b47 := hf.b 47
 have b48 := hf.b 48
 have b49 := hf.b 49
 have b6 := hf.b 6
 refine fp fun K Z => ?_
 go_simp
 apply Z.out; clear Z K
 refine fp fun K Z => ?_
 go_simp
 try rw [if_pos (by omega)]
 apply Z.out; clear Z K
 refine fp fun K Z => ?_
 go_simp
 apply Z.out; clear Z K
 refine fp fun K Z => ?_
 go_simp
 apply Z.out; clear Z K
 refine fp fun K Z => ?_
 go_simp
 apply Z.out; clear Z K
 refine fp fun K Z => ?_
 go_simp
 apply Z.out; clear Z K
 refine Fact.z hf fun fr1 hf1 hT => ?_
 have hKp : _ ∧ _ ∧ _ ∧ _ ∧ _ ∧ _ := ⟨hT 4, hT 5, hT 6, hT 43, hT 44, hT 45⟩
 simp (decide := true) only [Fact.G, hf.size, reduceIte, s4, s43, s44, s45] at hKp
 replace hf := hf1; clear hT hf1 s4 s43 s44 s45 s46 b47 b48 b49 b6
 obtain ⟨s4, s5, s6, s43, s44, s45⟩ := hKp
 obtain ⟨W5, hW5⟩ : ∃ W0, wr.alloc (.cells #[.slice A5 s.arcs.length c5, .bool s.final, .int .u64 s.out] 61) = W0 := ⟨_, rfl⟩
 try rw [hW5]
 obtain ⟨hb5, x0, x1, x2, hh5, hz5_⟩ := box3 hW5
 clear hW5
 have hz5 : wr.heap.size < W5.heap.size := by rw [hz5_]; exact Nat.lt_succ_self _
 clear hz5_
 clear d0 d1 d2
 refine nx (hK20 _ _ ?_)
 refine Fact.sq fun K21 hK21 => ?_
 refine rg ?_
 have b50 := hf.b 50
 have b51 := hf.b 51
 have b7 := hf.b 7
 refine fp fun K Z => ?_
 go_simp
 apply Z.out; clear Z K
 refine fp fun K Z => ?_
 go_simp
 apply Z.out; clear Z K
 refine fp fun K Z => ?_
 go_simp
 apply Z.out; clear Z K
 refine fp fun K Z => ?_
 go_simp
 apply Z.out; clear Z K
 refine Fact.z hf fun fr1 hf1 hT => ?_
 have hKp : _ ∧ _ ∧ _ ∧ _ ∧ _ ∧ _ ∧ _ := ⟨hT 4, hT 5, hT 6, hT 7, hT 43, hT 44, hT 45⟩
 simp (decide := true) only [Fact.G, hf.size, reduceIte, s4, s5, s6, s43, s44, s45] at hKp
 replace hf := hf1; clear hT hf1 s4 s5 s6 s43 s44 s45 b50 b51 b7
 obtain ⟨s4, s5, s6, s7, s43, s44, s45⟩ := hKp
 obtain ⟨W6, hW6⟩ : ∃ W0, W5.alloc (.cells #[.slice A5 s.arcs.length c5, .bool s.final, .int .u64 s.out, .int .u8 0] 79) = W0 := ⟨_, rfl⟩
 try rw [hW6]
 obtain ⟨hb6, y0, y1, y2, -, -, hz6_⟩ := box4 hW6
 clear hW6
 have hz6 : W5.heap.size < W6.heap.size := by rw [hz6_]; exact Nat.lt_succ_self _
 clear hz6_
 replace x0 := cL hb6 x0; replace x1 := cL hb6 x1; replace x2 := cL hb6 x2
 have hb56 := hb5.trans (hb6.mono hb5.size)
 have hgz := hg0.later hb56
 have hraz := hra.later hb56
 have hrasz := hras.later hb56
 clear hb6 hg0 hra hras
 refine nx (hK21 _ _ ?_)
 rcases hfin : s.final with _ | _
 · (
 by_cases hemp : s.arcs.length = 0
 · (
 have HFI := Lib.hid hfin; clear hfin
 have q1 := HFI.out
 have HEM := Lib.hid hemp; clear hemp
 have q2 : ((s.arcs.length : Int) == 0) = true := by have h9 := HEM.out; rw [beq_iff_eq]; omega
 refine Fact.sq fun K22 hK22 => ?_
 refine rg ?_
 have b52 := hf.b 52
 have b53 := hf.b 53
 have b54 := hf.b 54
 have b55 := hf.b 55
 have b56 := hf.b 56
 have b57 := hf.b 57
 have b58 := hf.b 58
 have b59 := hf.b 59
 have b60 := hf.b 60
 have b61 := hf.b 61
 have b62 := hf.b 62
 have b63 := hf.b 63
 have b64 := hf.b 64
 have b65 := hf.b 65
 have b66 := hf.b 66
 have b67 := hf.b 67
 have b68 := hf.b 68
 have b69 := hf.b 69
 refine fp fun K Z => ?_
 go_simp
 apply Z.out; clear Z K
 refine fp fun K Z => ?_
 go_simp
 apply Z.out; clear Z K
 refine fp fun K Z => ?_
 go_simp
 apply Z.out; clear Z K
 refine fp fun K Z => ?_
 go_simp
 apply Z.out; clear Z K
 refine og 3 55 true ?_ fun K Z => ?_
 · (
 simp (decide := true) only [Fact.G, reduceIte, hf.size, q1, q2])
 go_simp
 apply Z.out; clear Z K
 refine og 3 55 true ?_ fun K Z => ?_
 · (
 simp (decide := true) only [Fact.G, reduceIte, hf.size, q1, q2])
 go_simp
 apply Z.out; clear Z K
 refine og 3 55 true ?_ fun K Z => ?_
 · (
 simp (decide := true) only [Fact.G, reduceIte, hf.size, q1, q2])
 go_simp
 apply Z.out; clear Z K
 refine og 3 55 true ?_ fun K Z => ?_
 · (
 simp (decide := true) only [Fact.G, reduceIte, hf.size, q1, q2])
 go_simp
 apply Z.out; clear Z K
 refine fp fun K Z => ?_
 go_simp
 apply Z.out; clear Z K
 refine fp fun K Z => ?_
 go_simp
 apply Z.out; clear Z K
 refine sk 9 61 false ?_ ?_
 · (
 simp (decide := true) only [Fact.G, reduceIte, hf.size, q1, q2, Fact.N])
 refine sk 9 61 false ?_ ?_
 · (
 simp (decide := true) only [Fact.G, reduceIte, hf.size, q1, q2, Fact.N])
 refine fp fun K Z => ?_
 go_simp
 apply Z.out; clear Z K
 refine fp fun K Z => ?_
 go_simp
 apply Z.out; clear Z K
 refine sk 13 65 false ?_ ?_
 · (
 simp (decide := true) only [Fact.G, reduceIte, hf.size, q1, q2, Fact.N])
 refine sk 13 65 false ?_ ?_
 · (
 simp (decide := true) only [Fact.G, reduceIte, hf.size, q1, q2, Fact.N])
 refine sk 13 65 false ?_ ?_
 · (
 simp (decide := true) only [Fact.G, reduceIte, hf.size, q1, q2, Fact.N])
 refine sk 13 65 false ?_ ?_
 · (
 simp (decide := true) only [Fact.G, reduceIte, hf.size, q1, q2, Fact.N])
 refine fp fun K Z => ?_
 go_simp
 apply Z.out; clear Z K
 refine Fact.z hf fun fr1 hf1 hT => ?_
 have hKp : _ ∧ _ ∧ _ ∧ _ ∧ _ := ⟨hT 4, hT 43, hT 44, hT 45, hT 70⟩
 simp (decide := true) only [Fact.G, hf.size, reduceIte, s4, s43, s44, s45] at hKp
 replace hf := hf1; clear hT hf1 s4 s5 s6 s7 s43 s44 s45 b52 b53 b54 b55 b56 b57 b58 b59 b60 b61 b62 b63 b64 b65 b66 b67 b68 b69
 obtain ⟨s4, s43, s44, s45, s70⟩ := hKp
 refine nx (hK22 _ _ ?_)
 refine Fact.cond_t s70 ?_
 have hbad : goodS ss i s = false := by unfold goodS; rw [HFI.out]; rw [decide_eq_true HEM.out]; rfl
 have HBAD := Lib.hid hbad; clear hbad
 refine Fact.sq fun K23 hK23 => ?_
 refine rg ?_
 refine fp fun K Z => ?_
 go_simp
 apply Z.out; clear Z K
 refine Fact.z hf fun fr1 hf1 hT => ?_
 have hKp := hT 2
 simp (decide := true) only [Fact.G, hf.size, reduceIte] at hKp
 replace hf := hf1; clear hT hf1 s4 s43 s44 s45 s70
 have s2 := hKp; clear hKp
 refine nx (hK23 _ _ ?_)
 refine wp_ret ?_
 refine Fact.block_ret ?_
 refine Fact.then_ret ?_
 refine Fact.then_ret ?_
 refine Fact.block_ret ?_
 refine Fact.then_ret ?_
 exact Fact.ret1 rfl hf s2 ⟨by rw [HQ.out, HOF.out, HAG.out, HGS.out, HBAD.out]; rfl, hbw3.trans (Below.mono (hb.trans (hb56.mono hb.size)) (Nat.le_of_lt hzw3))⟩)
 · (
 by_cases hlz : leastOf s = 0
 · (
 by_cases hin : s ∈ ss.take i
 · (
 have HFI := Lib.hid hfin; clear hfin
 have q1 := HFI.out
 have HEM := Lib.hid hemp; clear hemp
 have q2 : ((s.arcs.length : Int) == 0) = false := by have h9 := HEM.out; rw [beq_eq_false_iff_ne]; omega
 have HLZ := Lib.hid hlz; clear hlz
 have q3 : ((leastOf s : Int) != 0) = false := by have h9 := HLZ.out; rw [h9]; rfl
 have HIN := Lib.hid hin; clear hin
 obtain ⟨j, hj1, hj2, hj3⟩ := finish_found HIN.out
 have HJ := Lib.hid hj3; clear hj1 hj3
 have hj4 : j < i := by simp at hj2; omega
 have q4 : ((j : Int) != (i : Int)) = true := by rw [bne_iff_ne]; omega
 refine Fact.sq fun K24 hK24 => ?_
 refine rg ?_
 have b52 := hf.b 52
 have b53 := hf.b 53
 have b54 := hf.b 54
 have b55 := hf.b 55
 have b56 := hf.b 56
 have b57 := hf.b 57
 have b58 := hf.b 58
 have b59 := hf.b 59
 have b60 := hf.b 60
 have b61 := hf.b 61
 have b62 := hf.b 62
 have b63 := hf.b 63
 have b64 := hf.b 64
 have b65 := hf.b 65
 have b66 := hf.b 66
 have b67 := hf.b 67
 have b68 := hf.b 68
 have b69 := hf.b 69
 refine fp fun K Z => ?_
 go_simp
 apply Z.out; clear Z K
 refine fp fun K Z => ?_
 go_simp
 apply Z.out; clear Z K
 refine fp fun K Z => ?_
 go_simp
 apply Z.out; clear Z K
 refine fp fun K Z => ?_
 go_simp
 apply Z.out; clear Z K
 refine og 3 55 true ?_ fun K Z => ?_
 · (
 simp (decide := true) only [Fact.G, reduceIte, hf.size, q1, q2, q3])
 go_simp
 apply Z.out; clear Z K
 refine og 3 55 true ?_ fun K Z => ?_
 · (
 simp (decide := true) only [Fact.G, reduceIte, hf.size, q1, q2, q3])
 go_simp
 apply Z.out; clear Z K
 refine og 3 55 true ?_ fun K Z => ?_
 · (
 simp (decide := true) only [Fact.G, reduceIte, hf.size, q1, q2, q3])
 go_simp
 apply Z.out; clear Z K
 refine og 3 55 true ?_ fun K Z => ?_
 · (
 simp (decide := true) only [Fact.G, reduceIte, hf.size, q1, q2, q3])
 go_simp
 apply Z.out; clear Z K
 refine fp fun K Z => ?_
 go_simp
 apply Z.out; clear Z K
 refine fp fun K Z => ?_
 go_simp
 apply Z.out; clear Z K
 refine og 9 61 false ?_ fun K Z => ?_
 · (
 simp (decide := true) only [Fact.G, reduceIte, hf.size, q1, q2, q3])
 go_simp
 go_at_call 34; refine (least34 W6 W5.heap.size 0 s _ _ ⟨y0, y1, y2, hrasz⟩ hks.ok).mono ?_; rintro e w7 ⟨rfl, hb7⟩
 replace x0 := cL hb7 x0; replace x1 := cL hb7 x1; replace x2 := cL hb7 x2
 have hg7 := hgz.later hb7
 have hra7 := hraz.later hb7
 have hb57 := hb56.trans (hb7.mono hb56.size)
 try dsimp only
 apply Z.out; clear Z K
 refine og 9 61 false ?_ fun K Z => ?_
 · (
 simp (decide := true) only [Fact.G, reduceIte, hf.size, q1, q2, q3])
 go_simp
 apply Z.out; clear Z K
 refine fp fun K Z => ?_
 go_simp
 apply Z.out; clear Z K
 refine fp fun K Z => ?_
 go_simp
 apply Z.out; clear Z K
 refine og 13 65 false ?_ fun K Z => ?_
 · (
 simp (decide := true) only [Fact.G, reduceIte, hf.size, q1, q2, q3])
 go_simp
 apply Z.out; clear Z K
 have HH := finish31 w7 hg7 hra7 hks (by simp; omega)
 simp only [sval, HFI.out] at HH
 refine og 13 65 false ?_ fun K Z => ?_
 · (
 simp (decide := true) only [Fact.G, reduceIte, hf.size, q1, q2, q3])
 go_simp
 go_at_call 31; refine (HH).mono ?_; rintro e w8 ⟨rfl, ownF, svF, hF1, hF2, hF3, hF4⟩
 have hbz := hb.trans ((hb57.mono hb.size).trans (But.below hF4 (by have := hb.size; have := hb57.size; omega) (fun k hk => by rcases Nat.lt_or_ge k w3.heap.size with h | h; (have := hg7.lo k h; omega); exact h)))
 rw [HJ.out]
 try dsimp only
 apply Z.out; clear Z K
 refine og 13 65 false ?_ fun K Z => ?_
 · (
 simp (decide := true) only [Fact.G, reduceIte, hf.size, q1, q2, q3])
 go_simp
 apply Z.out; clear Z K
 refine og 13 65 false ?_ fun K Z => ?_
 · (
 simp (decide := true) only [Fact.G, reduceIte, hf.size, q1, q2, q3])
 go_simp
 apply Z.out; clear Z K
 refine fp fun K Z => ?_
 go_simp
 apply Z.out; clear Z K
 refine Fact.z hf fun fr1 hf1 hT => ?_
 have hKp : _ ∧ _ ∧ _ ∧ _ ∧ _ := ⟨hT 4, hT 43, hT 44, hT 45, hT 70⟩
 simp (decide := true) only [Fact.G, hf.size, reduceIte, s4, s43, s44, s45] at hKp
 replace hf := hf1; clear hT hf1 s4 s5 s6 s7 s43 s44 s45 b52 b53 b54 b55 b56 b57 b58 b59 b60 b61 b62 b63 b64 b65 b66 b67 b68 b69
 obtain ⟨s4, s43, s44, s45, s70⟩ := hKp
 refine nx (hK24 _ _ ?_)
 refine Fact.cond_t s70 ?_
 have hbad : goodS ss i s = false := by unfold goodS; rw [HFI.out]; rw [decide_eq_false (show ¬ s ∉ ss.take i from fun h => h HIN.out)]; simp
 have HBAD := Lib.hid hbad; clear hbad
 refine Fact.sq fun K25 hK25 => ?_
 refine rg ?_
 refine fp fun K Z => ?_
 go_simp
 apply Z.out; clear Z K
 refine Fact.z hf fun fr1 hf1 hT => ?_
 have hKp := hT 2
 simp (decide := true) only [Fact.G, hf.size, reduceIte] at hKp
 replace hf := hf1; clear hT hf1 s4 s43 s44 s45 s70
 have s2 := hKp; clear hKp
 refine nx (hK25 _ _ ?_)
 refine wp_ret ?_
 refine Fact.block_ret ?_
 refine Fact.then_ret ?_
 refine Fact.then_ret ?_
 refine Fact.block_ret ?_
 refine Fact.then_ret ?_
 exact Fact.ret1 rfl hf s2 ⟨by rw [HQ.out, HOF.out, HAG.out, HGS.out, HBAD.out]; rfl, hbw3.trans (Below.mono (hbz) (Nat.le_of_lt hzw3))⟩)
 · (
 have HFI := Lib.hid hfin; clear hfin
 have q1 := HFI.out
 have HEM := Lib.hid hemp; clear hemp
 have q2 : ((s.arcs.length : Int) == 0) = false := by have h9 := HEM.out; rw [beq_eq_false_iff_ne]; omega
 have HLZ := Lib.hid hlz; clear hlz
 have q3 : ((leastOf s : Int) != 0) = false := by have h9 := HLZ.out; rw [h9]; rfl
 have HIN := Lib.hid hin; clear hin
 have HJ := Lib.hid (finish_new HIN.out)
 have hti : (ss.take i).length = i := by simp; omega
 have HTI := Lib.hid hti; clear hti
 refine Fact.sq fun K26 hK26 => ?_
 refine rg ?_
 have b52 := hf.b 52
 have b53 := hf.b 53
 have b54 := hf.b 54
 have b55 := hf.b 55
 have b56 := hf.b 56
 have b57 := hf.b 57
 have b58 := hf.b 58
 have b59 := hf.b 59
 have b60 := hf.b 60
 have b61 := hf.b 61
 have b62 := hf.b 62
 have b63 := hf.b 63
 have b64 := hf.b 64
 have b65 := hf.b 65
 have b66 := hf.b 66
 have b67 := hf.b 67
 have b68 := hf.b 68
 have b69 := hf.b 69
 refine fp fun K Z => ?_
 go_simp
 apply Z.out; clear Z K
 refine fp fun K Z => ?_
 go_simp
 apply Z.out; clear Z K
 refine fp fun K Z => ?_
 go_simp
 apply Z.out; clear Z K
 refine fp fun K Z => ?_
 go_simp
 apply Z.out; clear Z K
 refine og 3 55 true ?_ fun K Z => ?_
 · (
 simp (decide := true) only [Fact.G, reduceIte, hf.size, q1, q2, q3])
 go_simp
 apply Z.out; clear Z K
 refine og 3 55 true ?_ fun K Z => ?_
 · (
 simp (decide := true) only [Fact.G, reduceIte, hf.size, q1, q2, q3])
 go_simp
 apply Z.out; clear Z K
 refine og 3 55 true ?_ fun K Z => ?_
 · (
 simp (decide := true) only [Fact.G, reduceIte, hf.size, q1, q2, q3])
 go_simp
 apply Z.out; clear Z K
 refine og 3 55 true ?_ fun K Z => ?_
 · (
 simp (decide := true) only [Fact.G, reduceIte, hf.size, q1, q2, q3])
 go_simp
 apply Z.out; clear Z K
 refine fp fun K Z => ?_
 go_simp
 apply Z.out; clear Z K
 refine fp fun K Z => ?_
 go_simp
 apply Z.out; clear Z K
 refine og 9 61 false ?_ fun K Z => ?_
 · (
 simp (decide := true) only [Fact.G, reduceIte, hf.size, q1, q2, q3])
 go_simp
 go_at_call 34; refine (least34 W6 W5.heap.size 0 s _ _ ⟨y0, y1, y2, hrasz⟩ hks.ok).mono ?_; rintro e w7 ⟨rfl, hb7⟩
 replace x0 := cL hb7 x0; replace x1 := cL hb7 x1; replace x2 := cL hb7 x2
 have hg7 := hgz.later hb7
 have hra7 := hraz.later hb7
 have hb57 := hb56.trans (hb7.mono hb56.size)
 try dsimp only
 apply Z.out; clear Z K
 refine og 9 61 false ?_ fun K Z => ?_
 · (
 simp (decide := true) only [Fact.G, reduceIte, hf.size, q1, q2, q3])
 go_simp
 apply Z.out; clear Z K
 refine fp fun K Z => ?_
 go_simp
 apply Z.out; clear Z K
 refine fp fun K Z => ?_
 go_simp
 apply Z.out; clear Z K
 refine og 13 65 false ?_ fun K Z => ?_
 · (
 simp (decide := true) only [Fact.G, reduceIte, hf.size, q1, q2, q3])
 go_simp
 apply Z.out; clear Z K
 have HH := finish31 w7 hg7 hra7 hks (by simp; omega)
 simp only [sval, HFI.out] at HH
 refine og 13 65 false ?_ fun K Z => ?_
 · (
 simp (decide := true) only [Fact.G, reduceIte, hf.size, q1, q2, q3])
 go_simp
 go_at_call 31; refine (HH).mono ?_; rintro e w8 ⟨rfl, ownF, svF, hF1, hF2, hF3, hF4⟩
 have hbz := hb.trans ((hb57.mono hb.size).trans (But.below hF4 (by have := hb.size; have := hb57.size; omega) (fun k hk => by rcases Nat.lt_or_ge k w3.heap.size with h | h; (have := hg7.lo k h; omega); exact h)))
 rw [HJ.out] at hF3
 rw [HJ.out, HTI.out]
 try dsimp only
 apply Z.out; clear Z K
 refine og 13 65 false ?_ fun K Z => ?_
 · (
 simp (decide := true) only [Fact.G, reduceIte, hf.size, q1, q2, q3])
 go_simp
 apply Z.out; clear Z K
 refine og 13 65 false ?_ fun K Z => ?_
 · (
 simp (decide := true) only [Fact.G, reduceIte, hf.size, q1, q2, q3])
 go_simp
 apply Z.out; clear Z K
 refine fp fun K Z => ?_
 go_simp
 apply Z.out; clear Z K
 refine Fact.z hf fun fr1 hf1 hT => ?_
 have hKp : _ ∧ _ ∧ _ ∧ _ ∧ _ := ⟨hT 4, hT 43, hT 44, hT 45, hT 70⟩
 simp (decide := true) only [Fact.G, hf.size, reduceIte, s4, s43, s44, s45] at hKp
 replace hf := hf1; clear hT hf1 s4 s5 s6 s7 s43 s44 s45 b52 b53 b54 b55 b56 b57 b58 b59 b60 b61 b62 b63 b64 b65 b66 b67 b68 b69
 obtain ⟨s4, s43, s44, s45, s70⟩ := hKp
 refine nx (hK26 _ _ ?_)
 refine Fact.cond_f s70 ?_
 have hgood : goodS ss i s = true := by unfold goodS; rw [HFI.out, decide_eq_true HLZ.out, decide_eq_true HIN.out]; rw [decide_eq_false HEM.out]; rfl
 have HGD := Lib.hid hgood; clear hgood
 refine wp_skip ?_
 refine Fact.block_normal ?_
 refine nx (hK19 _ _ ?_)
 refine rg ?_
 have b71 := hf.b 71
 refine fp fun K Z => ?_
 go_simp
 try simp (disch := omega) only [Fact.W]
 apply Z.out; clear Z K
 refine fp fun K Z => ?_
 go_simp
 apply Z.out; clear Z K
 refine Fact.z hf fun fr1 hf1 hT => ?_
 have hKp : _ ∧ _ ∧ _ ∧ _ := ⟨hT 4, hT 43, hT 44, hT 45⟩
 simp (decide := true) only [Fact.G, hf.size, reduceIte, s4, s43, s44] at hKp
 replace hf := hf1; clear hT hf1 s4 s43 s44 s45 s70 b71
 obtain ⟨s4, s43, s44, s45⟩ := hKp
 refine Fact.then_normal ?_
 exact ⟨_, by have := HK.out; omega, i + 1, ownF, svF, rfl, by omega, hf, s4, s43, s44, by rw [s45]; rfl, by rw [List.take_add_one, HS.out]; exact hF3, by rw [HAG.out, HGS.out, HGD.out]; rfl, hbz⟩))
 · (
 have HFI := Lib.hid hfin; clear hfin
 have q1 := HFI.out
 have HEM := Lib.hid hemp; clear hemp
 have q2 : ((s.arcs.length : Int) == 0) = false := by have h9 := HEM.out; rw [beq_eq_false_iff_ne]; omega
 have HLZ := Lib.hid hlz; clear hlz
 have q3 : ((leastOf s : Int) != 0) = true := by have h9 := HLZ.out; rw [bne_iff_ne]; omega
 refine Fact.sq fun K27 hK27 => ?_
 refine rg ?_
 have b52 := hf.b 52
 have b53 := hf.b 53
 have b54 := hf.b 54
 have b55 := hf.b 55
 have b56 := hf.b 56
 have b57 := hf.b 57
 have b58 := hf.b 58
 have b59 := hf.b 59
 have b60 := hf.b 60
 have b61 := hf.b 61
 have b62 := hf.b 62
 have b63 := hf.b 63
 have b64 := hf.b 64
 have b65 := hf.b 65
 have b66 := hf.b 66
 have b67 := hf.b 67
 have b68 := hf.b 68
 have b69 := hf.b 69
 refine fp fun K Z => ?_
 go_simp
 apply Z.out; clear Z K
 refine fp fun K Z => ?_
 go_simp
 apply Z.out; clear Z K
 refine fp fun K Z => ?_
 go_simp
 apply Z.out; clear Z K
 refine fp fun K Z => ?_
 go_simp
 apply Z.out; clear Z K
 refine og 3 55 true ?_ fun K Z => ?_
 · (
 simp (decide := true) only [Fact.G, reduceIte, hf.size, q1, q2, q3])
 go_simp
 apply Z.out; clear Z K
 refine og 3 55 true ?_ fun K Z => ?_
 · (
 simp (decide := true) only [Fact.G, reduceIte, hf.size, q1, q2, q3])
 go_simp
 apply Z.out; clear Z K
 refine og 3 55 true ?_ fun K Z => ?_
 · (
 simp (decide := true) only [Fact.G, reduceIte, hf.size, q1, q2, q3])
 go_simp
 apply Z.out; clear Z K
 refine og 3 55 true ?_ fun K Z => ?_
 · (
 simp (decide := true) only [Fact.G, reduceIte, hf.size, q1, q2, q3])
 go_simp
 apply Z.out; clear Z K
 refine fp fun K Z => ?_
 go_simp
 apply Z.out; clear Z K
 refine fp fun K Z => ?_
 go_simp
 apply Z.out; clear Z K
 refine og 9 61 false ?_ fun K Z => ?_
 · (
 simp (decide := true) only [Fact.G, reduceIte, hf.size, q1, q2, q3])
 go_simp
 go_at_call 34; refine (least34 W6 W5.heap.size 0 s _ _ ⟨y0, y1, y2, hrasz⟩ hks.ok).mono ?_; rintro e w7 ⟨rfl, hb7⟩
 replace x0 := cL hb7 x0; replace x1 := cL hb7 x1; replace x2 := cL hb7 x2
 have hg7 := hgz.later hb7
 have hra7 := hraz.later hb7
 have hb57 := hb56.trans (hb7.mono hb56.size)
 try dsimp only
 apply Z.out; clear Z K
 refine og 9 61 false ?_ fun K Z => ?_
 · (
 simp (decide := true) only [Fact.G, reduceIte, hf.size, q1, q2, q3])
 go_simp
 apply Z.out; clear Z K
 refine fp fun K Z => ?_
 go_simp
 apply Z.out; clear Z K
 refine fp fun K Z => ?_
 go_simp
 apply Z.out; clear Z K
 refine sk 13 65 false ?_ ?_
 · (
 simp (decide := true) only [Fact.G, reduceIte, hf.size, q1, q2, q3, Fact.N])
 refine sk 13 65 false ?_ ?_
 · (
 simp (decide := true) only [Fact.G, reduceIte, hf.size, q1, q2, q3, Fact.N])
 refine sk 13 65 false ?_ ?_
 · (
 simp (decide := true) only [Fact.G, reduceIte, hf.size, q1, q2, q3, Fact.N])
 refine sk 13 65 false ?_ ?_
 · (
 simp (decide := true) only [Fact.G, reduceIte, hf.size, q1, q2, q3, Fact.N])
 refine fp fun K Z => ?_
 go_simp
 apply Z.out; clear Z K
 refine Fact.z hf fun fr1 hf1 hT => ?_
 have hKp : _ ∧ _ ∧ _ ∧ _ ∧ _ := ⟨hT 4, hT 43, hT 44, hT 45, hT 70⟩
 simp (decide := true) only [Fact.G, hf.size, reduceIte, s4, s43, s44, s45] at hKp
 replace hf := hf1; clear hT hf1 s4 s5 s6 s7 s43 s44 s45 b52 b53 b54 b55 b56 b57 b58 b59 b60 b61 b62 b63 b64 b65 b66 b67 b68 b69
 obtain ⟨s4, s43, s44, s45, s70⟩ := hKp
 refine nx (hK27 _ _ ?_)
 refine Fact.cond_t s70 ?_
 have hbad : goodS ss i s = false := by unfold goodS; rw [HFI.out]; rw [decide_eq_false HLZ.out]; simp
 have HBAD := Lib.hid hbad; clear hbad
 refine Fact.sq fun K28 hK28 => ?_
 refine rg ?_
 refine fp fun K Z => ?_
 go_simp
 apply Z.out; clear Z K
 refine Fact.z hf fun fr1 hf1 hT => ?_
 have hKp := hT 2
 simp (decide := true) only [Fact.G, hf.size, reduceIte] at hKp
 replace hf := hf1; clear hT hf1 s4 s43 s44 s45 s70
 have s2 := hKp; clear hKp
 refine nx (hK28 _ _ ?_)
 refine wp_ret ?_
 refine Fact.block_ret ?_
 refine Fact.then_ret ?_
 refine Fact.then_ret ?_
 refine Fact.block_ret ?_
 refine Fact.then_ret ?_
 exact Fact.ret1 rfl hf s2 ⟨by rw [HQ.out, HOF.out, HAG.out, HGS.out, HBAD.out]; rfl, hbw3.trans (Below.mono (hb.trans (hb57.mono hb.size)) (Nat.le_of_lt hzw3))⟩)))
 · (
 by_cases hlz : leastOf s = 0
 · (
 by_cases hin : s ∈ ss.take i
 · (
 have HFI := Lib.hid hfin; clear hfin
 have q1 := HFI.out
 have HLZ := Lib.hid hlz; clear hlz
 have q3 : ((leastOf s : Int) != 0) = false := by have h9 := HLZ.out; rw [h9]; rfl
 have HIN := Lib.hid hin; clear hin
 obtain ⟨j, hj1, hj2, hj3⟩ := finish_found HIN.out
 have HJ := Lib.hid hj3; clear hj1 hj3
 have hj4 : j < i := by simp at hj2; omega
 have q4 : ((j : Int) != (i : Int)) = true := by rw [bne_iff_ne]; omega
 refine Fact.sq fun K29 hK29 => ?_
 refine rg ?_
 have b52 := hf.b 52
 have b53 := hf.b 53
 have b54 := hf.b 54
 have b55 := hf.b 55
 have b56 := hf.b 56
 have b57 := hf.b 57
 have b58 := hf.b 58
 have b59 := hf.b 59
 have b60 := hf.b 60
 have b61 := hf.b 61
 have b62 := hf.b 62
 have b63 := hf.b 63
 have b64 := hf.b 64
 have b65 := hf.b 65
 have b66 := hf.b 66
 have b67 := hf.b 67
 have b68 := hf.b 68
 have b69 := hf.b 69
 refine fp fun K Z => ?_
 go_simp
 apply Z.out; clear Z K
 refine fp fun K Z => ?_
 go_simp
 apply Z.out; clear Z K
 refine fp fun K Z => ?_
 go_simp
 apply Z.out; clear Z K
 refine fp fun K Z => ?_
 go_simp
 apply Z.out; clear Z K
 refine sk 3 55 true ?_ ?_
 · (
 simp (decide := true) only [Fact.G, reduceIte, hf.size, q1, q3, Fact.N])
 refine sk 3 55 true ?_ ?_
 · (
 simp (decide := true) only [Fact.G, reduceIte, hf.size, q1, q3, Fact.N])
 refine sk 3 55 true ?_ ?_
 · (
 simp (decide := true) only [Fact.G, reduceIte, hf.size, q1, q3, Fact.N])
 refine sk 3 55 true ?_ ?_
 · (
 simp (decide := true) only [Fact.G, reduceIte, hf.size, q1, q3, Fact.N])
 refine fp fun K Z => ?_
 go_simp
 apply Z.out; clear Z K
 refine fp fun K Z => ?_
 go_simp
 apply Z.out; clear Z K
 refine og 9 61 false ?_ fun K Z => ?_
 · (
 simp (decide := true) only [Fact.G, reduceIte, hf.size, q1, q3])
 go_simp
 go_at_call 34; refine (least34 W6 W5.heap.size 0 s _ _ ⟨y0, y1, y2, hrasz⟩ hks.ok).mono ?_; rintro e w7 ⟨rfl, hb7⟩
 replace x0 := cL hb7 x0; replace x1 := cL hb7 x1; replace x2 := cL hb7 x2
 have hg7 := hgz.later hb7
 have hra7 := hraz.later hb7
 have hb57 := hb56.trans (hb7.mono hb56.size)
 try dsimp only
 apply Z.out; clear Z K
 refine og 9 61 false ?_ fun K Z => ?_
 · (
 simp (decide := true) only [Fact.G, reduceIte, hf.size, q1, q3])
 go_simp
 apply Z.out; clear Z K
 refine fp fun K Z => ?_
 go_simp
 apply Z.out; clear Z K
 refine fp fun K Z => ?_
 go_simp
 apply Z.out; clear Z K
 refine og 13 65 false ?_ fun K Z => ?_
 · (
 simp (decide := true) only [Fact.G, reduceIte, hf.size, q1, q3])
 go_simp
 apply Z.out; clear Z K
 have HH := finish31 w7 hg7 hra7 hks (by simp; omega)
 simp only [sval, HFI.out] at HH
 refine og 13 65 false ?_ fun K Z => ?_
 · (
 simp (decide := true) only [Fact.G, reduceIte, hf.size, q1, q3])
 go_simp
 go_at_call 31; refine (HH).mono ?_; rintro e w8 ⟨rfl, ownF, svF, hF1, hF2, hF3, hF4⟩
 have hbz := hb.trans ((hb57.mono hb.size).trans (But.below hF4 (by have := hb.size; have := hb57.size; omega) (fun k hk => by rcases Nat.lt_or_ge k w3.heap.size with h | h; (have := hg7.lo k h; omega); exact h)))
 rw [HJ.out]
 try dsimp only
 apply Z.out; clear Z K
 refine og 13 65 false ?_ fun K Z => ?_
 · (
 simp (decide := true) only [Fact.G, reduceIte, hf.size, q1, q3])
 go_simp
 apply Z.out; clear Z K
 refine og 13 65 false ?_ fun K Z => ?_
 · (
 simp (decide := true) only [Fact.G, reduceIte, hf.size, q1, q3])
 go_simp
 apply Z.out; clear Z K
 refine fp fun K Z => ?_
 go_simp
 apply Z.out; clear Z K
 refine Fact.z hf fun fr1 hf1 hT => ?_
 have hKp : _ ∧ _ ∧ _ ∧ _ ∧ _ := ⟨hT 4, hT 43, hT 44, hT 45, hT 70⟩
 simp (decide := true) only [Fact.G, hf.size, reduceIte, s4, s43, s44, s45] at hKp
 replace hf := hf1; clear hT hf1 s4 s5 s6 s7 s43 s44 s45 b52 b53 b54 b55 b56 b57 b58 b59 b60 b61 b62 b63 b64 b65 b66 b67 b68 b69
 obtain ⟨s4, s43, s44, s45, s70⟩ := hKp
 refine nx (hK29 _ _ ?_)
 refine Fact.cond_t s70 ?_
 have hbad : goodS ss i s = false := by unfold goodS; rw [HFI.out]; rw [decide_eq_false (show ¬ s ∉ ss.take i from fun h => h HIN.out)]; simp
 have HBAD := Lib.hid hbad; clear hbad
 refine Fact.sq fun K30 hK30 => ?_
 refine rg ?_
 refine fp fun K Z => ?_
 go_simp
 apply Z.out; clear Z K
 refine Fact.z hf fun fr1 hf1 hT => ?_
 have hKp := hT 2
 simp (decide := true) only [Fact.G, hf.size, reduceIte] at hKp
 replace hf := hf1; clear hT hf1 s4 s43 s44 s45 s70
 have s2 := hKp; clear hKp
 refine nx (hK30 _ _ ?_)
 refine wp_ret ?_
 refine Fact.block_ret ?_
 refine Fact.then_ret ?_
 refine Fact.then_ret ?_
 refine Fact.block_ret ?_
 refine Fact.then_ret ?_
 exact Fact.ret1 rfl hf s2 ⟨by rw [HQ.out, HOF.out, HAG.out, HGS.out, HBAD.out]; rfl, hbw3.trans (Below.mono (hbz) (Nat.le_of_lt hzw3))⟩)
 · (
 have HFI := Lib.hid hfin; clear hfin
 have q1 := HFI.out
 have HLZ := Lib.hid hlz; clear hlz
 have q3 : ((leastOf s : Int) != 0) = false := by have h9 := HLZ.out; rw [h9]; rfl
 have HIN := Lib.hid hin; clear hin
 have HJ := Lib.hid (finish_new HIN.out)
 have hti : (ss.take i).length = i := by simp; omega
 have HTI := Lib.hid hti; clear hti
 refine Fact.sq fun K31 hK31 => ?_
 refine rg ?_
 have b52 := hf.b 52
 have b53 := hf.b 53
 have b54 := hf.b 54
 have b55 := hf.b 55
 have b56 := hf.b 56
 have b57 := hf.b 57
 have b58 := hf.b 58
 have b59 := hf.b 59
 have b60 := hf.b 60
 have b61 := hf.b 61
 have b62 := hf.b 62
 have b63 := hf.b 63
 have b64 := hf.b 64
 have b65 := hf.b 65
 have b66 := hf.b 66
 have b67 := hf.b 67
 have b68 := hf.b 68
 have b69 := hf.b 69
 refine fp fun K Z => ?_
 go_simp
 apply Z.out; clear Z K
 refine fp fun K Z => ?_
 go_simp
 apply Z.out; clear Z K
 refine fp fun K Z => ?_
 go_simp
 apply Z.out; clear Z K
 refine fp fun K Z => ?_
 go_simp
 apply Z.out; clear Z K
 refine sk 3 55 true ?_ ?_
 · (
 simp (decide := true) only [Fact.G, reduceIte, hf.size, q1, q3, Fact.N])
 refine sk 3 55 true ?_ ?_
 · (
 simp (decide := true) only [Fact.G, reduceIte, hf.size, q1, q3, Fact.N])
 refine sk 3 55 true ?_ ?_
 · (
 simp (decide := true) only [Fact.G, reduceIte, hf.size, q1, q3, Fact.N])
 refine sk 3 55 true ?_ ?_
 · (
 simp (decide := true) only [Fact.G, reduceIte, hf.size, q1, q3, Fact.N])
 refine fp fun K Z => ?_
 go_simp
 apply Z.out; clear Z K
 refine fp fun K Z => ?_
 go_simp
 apply Z.out; clear Z K
 refine og 9 61 false ?_ fun K Z => ?_
 · (
 simp (decide := true) only [Fact.G, reduceIte, hf.size, q1, q3])
 go_simp
 go_at_call 34; refine (least34 W6 W5.heap.size 0 s _ _ ⟨y0, y1, y2, hrasz⟩ hks.ok).mono ?_; rintro e w7 ⟨rfl, hb7⟩
 replace x0 := cL hb7 x0; replace x1 := cL hb7 x1; replace x2 := cL hb7 x2
 have hg7 := hgz.later hb7
 have hra7 := hraz.later hb7
 have hb57 := hb56.trans (hb7.mono hb56.size)
 try dsimp only
 apply Z.out; clear Z K
 refine og 9 61 false ?_ fun K Z => ?_
 · (
 simp (decide := true) only [Fact.G, reduceIte, hf.size, q1, q3])
 go_simp
 apply Z.out; clear Z K
 refine fp fun K Z => ?_
 go_simp
 apply Z.out; clear Z K
 refine fp fun K Z => ?_
 go_simp
 apply Z.out; clear Z K
 refine og 13 65 false ?_ fun K Z => ?_
 · (
 simp (decide := true) only [Fact.G, reduceIte, hf.size, q1, q3])
 go_simp
 apply Z.out; clear Z K
 have HH := finish31 w7 hg7 hra7 hks (by simp; omega)
 simp only [sval, HFI.out] at HH
 refine og 13 65 false ?_ fun K Z => ?_
 · (
 simp (decide := true) only [Fact.G, reduceIte, hf.size, q1, q3])
 go_simp
 go_at_call 31; refine (HH).mono ?_; rintro e w8 ⟨rfl, ownF, svF, hF1, hF2, hF3, hF4⟩
 have hbz := hb.trans ((hb57.mono hb.size).trans (But.below hF4 (by have := hb.size; have := hb57.size; omega) (fun k hk => by rcases Nat.lt_or_ge k w3.heap.size with h | h; (have := hg7.lo k h; omega); exact h)))
 rw [HJ.out] at hF3
 rw [HJ.out, HTI.out]
 try dsimp only
 apply Z.out; clear Z K
 refine og 13 65 false ?_ fun K Z => ?_
 · (
 simp (decide := true) only [Fact.G, reduceIte, hf.size, q1, q3])
 go_simp
 apply Z.out; clear Z K
 refine og 13 65 false ?_ fun K Z => ?_
 · (
 simp (decide := true) only [Fact.G, reduceIte, hf.size, q1, q3])
 go_simp
 apply Z.out; clear Z K
 refine fp fun K Z => ?_
 go_simp
 apply Z.out; clear Z K
 refine Fact.z hf fun fr1 hf1 hT => ?_
 have hKp : _ ∧ _ ∧ _ ∧ _ ∧ _ := ⟨hT 4, hT 43, hT 44, hT 45, hT 70⟩
 simp (decide := true) only [Fact.G, hf.size, reduceIte, s4, s43, s44, s45] at hKp
 replace hf := hf1; clear hT hf1 s4 s5 s6 s7 s43 s44 s45 b52 b53 b54 b55 b56 b57 b58 b59 b60 b61 b62 b63 b64 b65 b66 b67 b68 b69
 obtain ⟨s4, s43, s44, s45, s70⟩ := hKp
 refine nx (hK31 _ _ ?_)
 refine Fact.cond_f s70 ?_
 have hgood : goodS ss i s = true := by unfold goodS; rw [HFI.out, decide_eq_true HLZ.out, decide_eq_true HIN.out]; rfl
 have HGD := Lib.hid hgood; clear hgood
 refine wp_skip ?_
 refine Fact.block_normal ?_
 refine nx (hK19 _ _ ?_)
 refine rg ?_
 have b71 := hf.b 71
 refine fp fun K Z => ?_
 go_simp
 try simp (disch := omega) only [Fact.W]
 apply Z.out; clear Z K
 refine fp fun K Z => ?_
 go_simp
 apply Z.out; clear Z K
 refine Fact.z hf fun fr1 hf1 hT => ?_
 have hKp : _ ∧ _ ∧ _ ∧ _ := ⟨hT 4, hT 43, hT 44, hT 45⟩
 simp (decide := true) only [Fact.G, hf.size, reduceIte, s4, s43, s44] at hKp
 replace hf := hf1; clear hT hf1 s4 s43 s44 s45 s70 b71
 obtain ⟨s4, s43, s44, s45⟩ := hKp
 refine Fact.then_normal ?_
 exact ⟨_, by have := HK.out; omega, i + 1, ownF, svF, rfl, by omega, hf, s4, s43, s44, by rw [s45]; rfl, by rw [List.take_add_one, HS.out]; exact hF3, by rw [HAG.out, HGS.out, HGD.out]; rfl, hbz⟩))
 · (
 have HFI := Lib.hid hfin; clear hfin
 have q1 := HFI.out
 have HLZ := Lib.hid hlz; clear hlz
 have q3 : ((leastOf s : Int) != 0) = true := by have h9 := HLZ.out; rw [bne_iff_ne]; omega
 refine Fact.sq fun K32 hK32 => ?_
 refine rg ?_
 have b52 := hf.b 52
 have b53 := hf.b 53
 have b54 := hf.b 54
 have b55 := hf.b 55
 have b56 := hf.b 56
 have b57 := hf.b 57
 have b58 := hf.b 58
 have b59 := hf.b 59
 have b60 := hf.b 60
 have b61 := hf.b 61
 have b62 := hf.b 62
 have b63 := hf.b 63
 have b64 := hf.b 64
 have b65 := hf.b 65
 have b66 := hf.b 66
 have b67 := hf.b 67
 have b68 := hf.b 68
 have b69 := hf.b 69
 refine fp fun K Z => ?_
 go_simp
 apply Z.out; clear Z K
 refine fp fun K Z => ?_
 go_simp
 apply Z.out; clear Z K
 refine fp fun K Z => ?_
 go_simp
 apply Z.out; clear Z K
 refine fp fun K Z => ?_
 go_simp
 apply Z.out; clear Z K
 refine sk 3 55 true ?_ ?_
 · (
 simp (decide := true) only [Fact.G, reduceIte, hf.size, q1, q3, Fact.N])
 refine sk 3 55 true ?_ ?_
 · (
 simp (decide := true) only [Fact.G, reduceIte, hf.size, q1, q3, Fact.N])
 refine sk 3 55 true ?_ ?_
 · (
 simp (decide := true) only [Fact.G, reduceIte, hf.size, q1, q3, Fact.N])
 refine sk 3 55 true ?_ ?_
 · (
 simp (decide := true) only [Fact.G, reduceIte, hf.size, q1, q3, Fact.N])
 refine fp fun K Z => ?_
 go_simp
 apply Z.out; clear Z K
 refine fp fun K Z => ?_
 go_simp
 apply Z.out; clear Z K
 refine og 9 61 false ?_ fun K Z => ?_
 · (
 simp (decide := true) only [Fact.G, reduceIte, hf.size, q1, q3])
 go_simp
 go_at_call 34; refine (least34 W6 W5.heap.size 0 s _ _ ⟨y0, y1, y2, hrasz⟩ hks.ok).mono ?_; rintro e w7 ⟨rfl, hb7⟩
 replace x0 := cL hb7 x0; replace x1 := cL hb7 x1; replace x2 := cL hb7 x2
 have hg7 := hgz.later hb7
 have hra7 := hraz.later hb7
 have hb57 := hb56.trans (hb7.mono hb56.size)
 try dsimp only
 apply Z.out; clear Z K
 refine og 9 61 false ?_ fun K Z => ?_
 · (
 simp (decide := true) only [Fact.G, reduceIte, hf.size, q1, q3])
 go_simp
 apply Z.out; clear Z K
 refine fp fun K Z => ?_
 go_simp
 apply Z.out; clear Z K
 refine fp fun K Z => ?_
 go_simp
 apply Z.out; clear Z K
 refine sk 13 65 false ?_ ?_
 · (
 simp (decide := true) only [Fact.G, reduceIte, hf.size, q1, q3, Fact.N])
 refine sk 13 65 false ?_ ?_
 · (
 simp (decide := true) only [Fact.G, reduceIte, hf.size, q1, q3, Fact.N])
 refine sk 13 65 false ?_ ?_
 · (
 simp (decide := true) only [Fact.G, reduceIte, hf.size, q1, q3, Fact.N])
 refine sk 13 65 false ?_ ?_
 · (
 simp (decide := true) only [Fact.G, reduceIte, hf.size, q1, q3, Fact.N])
 refine fp fun K Z => ?_
 go_simp
 apply Z.out; clear Z K
 refine Fact.z hf fun fr1 hf1 hT => ?_
 have hKp : _ ∧ _ ∧ _ ∧ _ ∧ _ := ⟨hT 4, hT 43, hT 44, hT 45, hT 70⟩
 simp (decide := true) only [Fact.G, hf.size, reduceIte, s4, s43, s44, s45] at hKp
 replace hf := hf1; clear hT hf1 s4 s5 s6 s7 s43 s44 s45 b52 b53 b54 b55 b56 b57 b58 b59 b60 b61 b62 b63 b64 b65 b66 b67 b68 b69
 obtain ⟨s4, s43, s44, s45, s70⟩ := hKp
 refine nx (hK32 _ _ ?_)
 refine Fact.cond_t s70 ?_
 have hbad : goodS ss i s = false := by unfold goodS; rw [HFI.out]; rw [decide_eq_false HLZ.out]; simp
 have HBAD := Lib.hid hbad; clear hbad
 refine Fact.sq fun K33 hK33 => ?_
 refine rg ?_
 refine fp fun K Z => ?_
 go_simp
 apply Z.out; clear Z K
 refine Fact.z hf fun fr1 hf1 hT => ?_
 have hKp := hT 2
 simp (decide := true) only [Fact.G, hf.size, reduceIte] at hKp
 replace hf := hf1; clear hT hf1 s4 s43 s44 s45 s70
 have s2 := hKp; clear hKp
 refine nx (hK33 _ _ ?_)
 refine wp_ret ?_
 refine Fact.block_ret ?_
 refine Fact.then_ret ?_
 refine Fact.then_ret ?_
 refine Fact.block_ret ?_
 refine Fact.then_ret ?_
 exact Fact.ret1 rfl hf s2 ⟨by rw [HQ.out, HOF.out, HAG.out, HGS.out, HBAD.out]; rfl, hbw3.trans (Below.mono (hb.trans (hb57.mono hb.size)) (Nat.le_of_lt hzw3))⟩)))
 · (
 have hie : i = ss.length := by have h9 := of_decide_eq_false hq; omega
 have HIE := Lib.hid hie; clear hie hq
 refine wp_exit ?_
 refine Fact.then_exit ?_
 refine Fact.then_exit ?_
 refine Fact.block_exit ?_
 refine nx (hK15 _ _ ?_)
 refine Fact.sq fun K34 hK34 => ?_
 refine rg ?_
 refine fp fun K Z => ?_
 go_simp
 apply Z.out; clear Z K
 refine Fact.z hf fun fr1 hf1 hT => ?_
 have hKp := hT 2
 simp (decide := true) only [Fact.G, hf.size, reduceIte] at hKp
 replace hf := hf1; clear hT hf1 s4 s43 s44 s45 s46
 have s2 := hKp; clear hKp
 refine nx (hK34 _ _ ?_)
 refine wp_ret ?_
 refine Fact.ret1 rfl hf s2 ⟨?_, hbw3.trans (hb.mono (Nat.le_of_lt hzw3))⟩
 rw [HQ.out, HOF.out, HAG.out, HIE.out, List.drop_length]; rfl)))))
end Dw
end Go.Proofs.YtgjfhedgdbbinaaDoor
