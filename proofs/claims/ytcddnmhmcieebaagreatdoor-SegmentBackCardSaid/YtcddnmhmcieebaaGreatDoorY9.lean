/- Dawg: Right. -/
import Derived.Test.YtcddnmhmcieebaaGreatDoorY8
import Derived.Test.YtcddnmhmcieebaaGreatDoorTools
import Derived.Test.YtcddnmhmcieebaaGreatDoorY7
import Derived.Test.YtcddnmhmcieebaaGreatDoorY1
import Derived.Laws.BytesArg
namespace Go.Proofs.YtcddnmhmcieebaaGreatDoor
open Go.RowKit
set_option linter.unusedSimpArgs false
set_option linter.unusedVariables false
set_option linter.unnecessarySimpa false
namespace Dw
open Go.Maps
theorem okArcs_all : ∀ (l : List Arc) (i : Nat) (last : Int), okArcs i last l = true -> ∀ a ∈ l, 0 <= a.to /\ a.to < (i : Int)
 | [], _, _, _ => by simp
 | a :: l, i, last, h => by
  simp only [okArcs, Bool.and_eq_true, decide_eq_true_eq] at h
  intro x hx
  rcases List.mem_cons.1 hx with rfl | hx
  ·exact ⟨h.1.1.1, h.1.1.2⟩
  ·exact okArcs_all l i _ h.2 x hx
theorem okArcs_len : ∀ (l : List Arc) (i : Nat) (last : Int), okArcs i last l = true -> (∀ a ∈ l, a.byte < 256) -> -1 <= last -> last <= 255 -> (l.length : Int) <= 255 - last
 | [], _, _, _, _, _, h => by simp; omega
 | a :: l, i, last, h, hb, h1, h2 => by
  simp only [okArcs, Bool.and_eq_true, decide_eq_true_eq] at h
  have h3 := hb a (List.mem_cons_self ..)
  have := okArcs_len l i (a.byte : Int) h.2 (fun x hx => hb x (List.mem_cons_of_mem _ hx)) (by omega) (by omega)
  simp only [List.length_cons]
  omega
theorem formedL_all : ∀ (l : List State) (i : Nat), formedL i l = true -> ∀ (j : Nat) (s : State), l[j]? = some s -> okArcs (i + j) (-1) s.arcs = true
 | [], _, _, j, s, hj => by simp at hj
 | x :: l, i, h, j, s, hj => by
  simp only [formedL, Bool.and_eq_true] at h
  cases j with
  | zero => injection hj with hj; subst hj; exact h.1.2
  | succ j => rw [show i + (j + 1) = (i + 1) + j by omega]; exact formedL_all l (i + 1) h.2 j s hj
theorem formed_at {ss : List State} (h : formedF ss = true) {j : Nat} {s : State} (hj : ss[j]? = some s) : okArcs j (-1) s.arcs = true := by
 unfold formedF at h
 rw [Bool.and_eq_true] at h
 have := formedL_all ss 0 h.1 j s hj
 rwa [Nat.zero_add] at this
theorem formed_pos {ss : List State} (h : formedF ss = true) : 0 < ss.length := by
 unfold formedF at h
 rw [Bool.and_eq_true] at h
 exact of_decide_eq_true h.2
theorem formed_ahead {ss : List State} (h : formedF ss = true) : Ahead ss := by
 intro s a ha
 unfold arcsOf at ha
 cases hs : ss[s]? with
 | none => rw [hs] at ha; simp at ha
 | some st => rw [hs] at ha; exact okArcs_all _ _ _ (formed_at h hs) a (by simpa using ha)
theorem formed_okK {ss : List State} (h : formedF ss = true) (hok : ∀ s ∈ ss, okS s) : ∀ s ∈ ss, okK s := by
 intro s hs
 obtain ⟨j, hj⟩ := List.mem_iff_getElem?.1 hs
 have h1 := formed_at h hj
 have h2 := hok s hs
 refine ⟨h2, fun a ha => (okArcs_all _ _ _ h1 a ha).1, ?_⟩
 have := okArcs_len _ _ _ h1 (fun a ha => (h2.2.2 a ha).1) (by omega) (by omega)
 omega
theorem getLast_of {ss : List State} {r : State} (h : ss[ss.length - 1]? = some r) : ss.getLast? = some r := by rw [List.getLast?_eq_getElem?]; exact h
def ownR (base : Nat) (k : Nat) : Nat := if k < base then 4 else if k = base then 3 else if k = base + 1 then 1 else 0
theorem Reg.start (w0 : World) {W : World} (hW : (w0.alloc (.map #[] 0)).alloc (.cells #[.slice none 0 0, .map (some w0.heap.size)] 120) = W) :
  Reg W w0.heap.size (ownR w0.heap.size) (w0.heap.size + 1) 120 [] (.slice none 0 0) w0.heap.size [] /\ Below w0.heap.size w0 W := by
 have hbb : Below w0.heap.size w0 W := by rw [<- hW]; exact ((Below.refl _ _).alloc (Nat.le_refl _) _).alloc (by simp) _
 have h1 := World.ownsMap_made w0 Tryz.prog 9 (plainElem (H := Unit) Tryz.prog 3)
 have hm2 := h1.alloc (.cells #[.slice none 0 0, .map (some w0.heap.size)] 120)
 rw [hW] at hm2
 have hbx : W.heap[w0.heap.size + 1]? = some (.cells #[.slice none 0 0, .map (some w0.heap.size)] 120 (0, 0)) := by
  have := heap_alloc_new (w0.alloc (.map #[] 0)) (.cells #[.slice none 0 0, .map (some w0.heap.size)] 120)
  rw [hW] at this
  rw [<- this]
  simp
 have o2 : ownR w0.heap.size w0.heap.size = 3 := by unfold ownR; rw [if_neg (by omega), if_pos rfl]
 have o4 : ownR w0.heap.size (w0.heap.size + 1) = 1 := by unfold ownR; rw [if_neg (by omega), if_neg (by omega), if_pos rfl]
 exact ⟨⟨fun k hk => if_pos hk, hbx, o4, o2, hm2, ⟨[], World.ownsRow_nil _ _ _ _, (fun k hk => by cases hk), fun i s hi => by simp at hi⟩, List.Pairwise.nil, by simp⟩, hbb⟩
set_option maxHeartbeats 4000000 in
set_option maxRecDepth 100000 in
theorem right9 (w : World) (sv : Value) (init : Nat) (ss : List State) (hrs : RS w sv ss) (hok : ∀ s ∈ ss, okS s) (hlen : ss.length <= 1000000) : Calls Tryz.prog 65 #[.agg #[sv, .int .u64 init]] w fun e w1 => e = .returned (.bool (rightF ss init)) /\ Below w.heap.size w w1 := by
 refine Zn1 72 Tryz.func65 fun fr hf s0 => ?_
 obtain ⟨A, cc, rfl, hcc⟩ := hrs.form
 have hlen0 := hlen
 have HO := Lib.hid hok; clear hok
 refine Ze fun _ hK1 => Zr [] hf ?_
 refine Zq1 1 hf ?_
 clear hf s0; intro fr1 hf s1
 generalize hW0 : w.alloc (.cells #[.slice A ss.length cc, .int .u64 init] 38) = W0
 obtain ⟨hb0, c0, c1, -, hz0_⟩ := box2 hW0
 clear hW0
 have hz0 : w.heap.size < W0.heap.size := by rw [hz0_]; exact Nat.lt_succ_self _
 clear hz0_
 have hr0 := hrs.later hb0
 clear hrs
 refine Zs hK1 fun _ hK2 => Ze fun _ hK3 => rg ?_
 have bB := hf.B2 8 9
 refine Zy ?_
 refine Zc (formed32 W0 _ init ss hr0 HO.out hlen) ?_; rintro e w1 ⟨rfl, hb1⟩
 refine Zv ?_
 refine Zy ?_
 refine Fact.nil (Zq2 1 10 hf ?_)
 clear hf s1 bB; intro fr1 hf sS
 have hr1 := hr0.later hb1
 replace c0 := cL hb1 c0; replace c1 := cL hb1 c1
 have hbw := hb0.trans (hb1.mono hb0.size)
 have hzw : w.heap.size < w1.heap.size := by have := hb1.size; omega
 clear hr0 hb1
 refine Zx hK3 ?_
 rcases hfm : formedF ss with _ | _
 . (
 have HFM := Lib.hid hfm; clear hfm
 have q10 : fr1.tmps[10]? = some (.bool true) := by rw [sS.2, HFM.out]; rfl
 obtain ⟨s1, s10⟩ := sS
 clear s10
 have s10 := q10; clear q10
 refine Fact.cond_t s10 ?_
 refine Ze fun _ hK4 => Zr [] hf ?_
 refine Zq1 2 hf ?_
 clear hf s1 s10; intro fr1 hf s2
 refine Zx hK4 (Zret ?_)
 exact Fact.ret1 rfl hf s2 ⟨by rw [rightF, HFM.out]; rfl, hbw⟩)
 . (
 have hkk := formed_okK hfm HO.out
 have h0 := formed_pos hfm
 have hA := formed_ahead hfm
 have HFM := Lib.hid hfm; clear hfm
 have q10 : fr1.tmps[10]? = some (.bool false) := by rw [sS.2, HFM.out]; rfl
 obtain ⟨s1, s10⟩ := sS
 clear s10
 have s10 := q10; clear q10
 refine Fact.cond_f s10 ?_
 obtain ⟨root, hroot⟩ : ∃ root, ss[ss.length - 1]? = some root := ⟨_, gE1 (by omega)⟩
 have hn1 : ((ss.length : Int) - 1) = ((ss.length - 1 : Nat) : Int) := by omega
 obtain ⟨b, off, av, rfl, hat⟩ := hr1.at_ hroot
 have d0 := hat.c0; have d1 := hat.c1; have d2 := hat.c2
 obtain ⟨Ar, cr, rfl, _⟩ := hat.arcs.form
 have HN1 := Lib.hid hn1; have HR := Lib.hid hroot; have HKK := Lib.hid hkk; clear hn1 hroot hkk hat
 obtain ⟨RE, hRE⟩ : ∃ x, (!root.final && decide (root.arcs.length = 0)) = x := ⟨_, rfl⟩
 have HRE := Lib.hid hRE; clear hRE
 have hrf : rightF ss init = if RE then decide (ss.length = 1) && decide (init = 0) else orderedF ss && allGood ss 0 ss := by rw [rightF, HFM.out, getLast_of HR.out, <- HRE.out]; rfl
 have HRF := Lib.hid hrf; clear hrf
 refine wp_skip (Zt hK2 fun _ hK5 => ?_)
 have bB := hf.B9 11 12 13 14 15 16 17 18 3
 iterate 5 refine Zy ?_
 refine fp fun K Z => ?_
 go_simp
 try simp (disch := omega) only [Fact.W]
 rw [HN1.out]
 apply Z.out; clear Z K
 iterate 4 refine Zy ?_
 refine Fact.nil (Zq2 1 3 hf ?_)
 clear hf s1 s10 bB; intro fr1 hf sS
 generalize hW2 : w1.alloc (.cells #[.slice Ar root.arcs.length cr, .bool root.final, .int .u64 root.out] 46) = W2
 obtain ⟨hb2, x0, x1, -, -, -⟩ := box3 hW2
 clear hW2
 clear d0 d1 d2
 have hr2 := hr1.later hb2
 replace c0 := cL hb2 c0; replace c1 := cL hb2 c1
 have hbw2 := hbw.trans (hb2.mono (by have := hb0.size; omega))
 have hzw2 : w.heap.size < W2.heap.size := by have := hb2.size; omega
 clear hr1 hb2 hbw
 refine Zx hK5 (Fact.seq_meet (fun fr wq => Fact.Fr 72 fr /\ fr.tmps[1]? = some (.pointer (some ⟨w.heap.size, 0, none⟩)) /\ wq = W2 /\ RE = false) ?_ ?_)
 . (
 rcases hfin : root.final with _ | _
 . (
 have HFI := Lib.hid hfin; clear hfin
 have q1 := HFI.out
 by_cases hemp : root.arcs.length = 0
 . (
 have HEM := Lib.hid hemp; clear hemp
 have q2 : ((root.arcs.length : Int) == 0) = true := by have h9 := HEM.out; rw [beq_iff_eq]; omega
 have hrev : RE = true := by rw [<- HRE.out, HFI.out, decide_eq_true HEM.out]; rfl
 have HREV := Lib.hid hrev; clear hrev
 refine Ze fun _ hK6 => ?_
 have qs := And.intro q1 q2
 refine Zr [19, 20, 21, 22, 23, 24, 25, 26] hf ?_
 refine Zq2 1 27 hf ?_
 clear hf sS qs; intro fr1 hf sS
 refine Zx hK6 (Fact.cond_t sS.2 ?_)
 have hre : rightF ss init = (decide (ss.length = 1) && decide (init = 0)) := by rw [HRF.out, HREV.out]; rfl
 have HQ := Lib.hid hre; clear hre
 by_cases h1 : ss.length = 1
 . (
 have H1 := Lib.hid h1; clear h1
 have q1 : ((ss.length : Int) == 1) = true := by have := H1.out; simp; omega
 refine Ze fun _ hK7 => ?_
 have qs := q1
 refine Zr [28, 29, 30, 31, 32, 33, 34, 35, 36] hf ?_
 refine Zq1 2 hf ?_
 clear hf sS qs; intro fr1 hf s2
 refine Zx hK7 (Zret ?_)
 refine Fact.ret1 rfl hf s2 ⟨?_, hbw2⟩
 rw [HQ.out, decide_eq_true H1.out]
 rw [<- beq_nat init 0]; rfl)
 . (
 have H1 := Lib.hid h1; clear h1
 have q1 : ((ss.length : Int) == 1) = false := by have := H1.out; simp; omega
 refine Ze fun _ hK8 => ?_
 have qs := q1
 refine Zr [28, 29, 30, 31, 32, 33, 34, 35, 36] hf ?_
 refine Zq1 2 hf ?_
 clear hf sS qs; intro fr1 hf s2
 refine Zx hK8 (Zret ?_)
 refine Fact.ret1 rfl hf s2 ⟨?_, hbw2⟩
 rw [HQ.out, decide_eq_false H1.out]
 rfl))
 . (
 have HEM := Lib.hid hemp; clear hemp
 have q2 : ((root.arcs.length : Int) == 0) = false := by have h9 := HEM.out; rw [beq_eq_false_iff_ne]; omega
 have hrev : RE = false := by rw [<- HRE.out, HFI.out, decide_eq_false HEM.out]; rfl
 have HREV := Lib.hid hrev; clear hrev
 refine Ze fun _ hK9 => ?_
 have qs := And.intro q1 q2
 refine Zr [19, 20, 21, 22, 23, 24, 25, 26] hf ?_
 refine Zq2 1 27 hf ?_
 clear hf sS qs; intro fr1 hf sS
 refine Zx hK9 (Fact.cond_f sS.2 ?_)
 clear q1 q2
 refine wp_skip (Fact.then_normal ?_)
 exact ⟨hf, sS.1, rfl, HREV.out⟩))
 . (
 have HFI := Lib.hid hfin; clear hfin
 have q1 := HFI.out
 have hrev : RE = false := by rw [<- HRE.out, HFI.out]; rfl
 have HREV := Lib.hid hrev; clear hrev
 refine Ze fun _ hK10 => ?_
 have qs := q1
 refine Zr [19, 20, 21, 22, 23, 24, 25, 26] hf ?_
 refine Zq2 1 27 hf ?_
 clear hf sS qs; intro fr1 hf sS
 refine Zx hK10 (Fact.cond_f sS.2 ?_)
 clear q1
 refine wp_skip (Fact.then_normal ?_)
 exact ⟨hf, sS.1, rfl, HREV.out⟩))
 . (
 clear hf sS
 rintro fr wq ⟨hf, s1, hw, hrev⟩
 subst wq
 have HREV := Lib.hid hrev; clear hrev
 have hre : rightF ss init = (orderedF ss && allGood ss 0 ss) := by rw [HRF.out, HREV.out]; rfl
 have HQ := Lib.hid hre; clear hre
 refine Ze fun _ hK11 => Ze fun _ hK12 => rg ?_
 have bB := hf.B2 37 38
 refine Zy ?_
 refine fp fun K Z => ?_
 go_simp
 go_at_call 104; refine (ordered33 W2 _ init ss hr2 HO.out hlen h0 hA).mono ?_; rintro e w3 ⟨rfl, hb3⟩
 try dsimp only
 apply Z.out; clear Z K
 refine Zy ?_
 refine Fact.nil (Zq2 1 39 hf ?_)
 clear hf s1 bB; intro fr1 hf sS
 have hr3 := hr2.later hb3
 replace c0 := cL hb3 c0
 have hbw3 := hbw2.trans (hb3.mono (by omega))
 have hzw3 : w.heap.size < w3.heap.size := by have := hb3.size; omega
 clear hr2 hb3 hbw2 c1 x0 x1
 refine Zx hK12 ?_
 rcases hof : orderedF ss with _ | _
 . (
 have HOF := Lib.hid hof; clear hof
 have q39 : fr1.tmps[39]? = some (.bool true) := by rw [sS.2, HOF.out]; rfl
 obtain ⟨s1, s39⟩ := sS
 clear s39
 have s39 := q39; clear q39
 refine Fact.cond_t s39 ?_
 refine Ze fun _ hK13 => Zr [] hf ?_
 refine Zq1 2 hf ?_
 clear hf s1 s39; intro fr1 hf s2
 refine Zx hK13 (Zret ?_)
 exact Fact.ret1 rfl hf s2 ⟨by rw [HQ.out, HOF.out]; rfl, hbw3⟩)
 . (
 have HOF := Lib.hid hof; clear hof
 have q39 : fr1.tmps[39]? = some (.bool false) := by rw [sS.2, HOF.out]; rfl
 obtain ⟨s1, s39⟩ := sS
 clear s39
 have s39 := q39; clear q39
 refine Fact.cond_f s39 ?_
 have hmm := @run_makeMap Tryz.prog
 refine wp_skip (Zs hK11 fun _ hK14 => Zr [40, 41, 4] hf ?_)
 refine Zq2 1 4 hf ?_
 clear hf s1 s39; intro fr1 hf sS
 clear hmm
 generalize hW4 : (w3.alloc (.map #[] 0)).alloc (.cells #[.slice none 0 0, .map (some w3.heap.size)] 120) = W4
 obtain ⟨s1, s4⟩ := sS
 try simp only [World.size_alloc] at s4
 obtain ⟨hg4, hb4⟩ := Reg.start w3 hW4
 clear hW4
 have c4 := cL hb4 c0
 obtain ⟨own4, hown4⟩ : ∃ f, ownR w3.heap.size = f := ⟨_, rfl⟩
 rw [hown4] at hg4
 clear hown4
 refine Zs hK14 fun _ hK15 => Ze fun _ hK16 => Zr [42, 43] hf ?_
 refine Zq4 4 43 44 45 hf ?_
 clear hf s1 s4; intro fr1 hf sS
 refine Zx hK16 (wp_block ?_)
 clear c4
 refine wp_loop_ghost (fun gk fr wr => ∃ (i : Nat) (ownr : Nat -> Nat) (svr : Value), gk = ss.length - i /\ i <= ss.length /\ Fact.Fr 72 fr /\ fr.tmps[4]? = some (.pointer (some ⟨w3.heap.size + 1, 0, none⟩)) /\ fr.tmps[43]? = some (.slice (some ⟨b, off, none⟩) ss.length cc) /\ fr.tmps[44]? = some (.int .i64 ss.length) /\ fr.tmps[45]? = some (.int .i64 i) /\ Reg wr w3.heap.size ownr (w3.heap.size + 1) 120 [] svr w3.heap.size (ss.take i) /\ allGood ss 0 ss = allGood ss i (ss.drop i) /\ Below w3.heap.size w3 wr) (ss.length) ?_ ?_
 . (
 obtain ⟨s4, s43, s44, s45⟩ := sS
 exact ⟨0, own4, _, rfl, Nat.zero_le _, hf, s4, s43, s44, s45, hg4, rfl, hb4⟩)
 . (
 clear hf sS
 rintro gk fr wr ⟨i, ownr, svr, hk, hi, hf, s4, s43, s44, s45, hgr, hag, hb⟩
 have HK := Lib.hid hk; have HAG := Lib.hid hag; clear hk hag hg4 hb4
 refine Ze fun _ hK17 => Zr [] hf ?_
 refine Zq5 4 43 44 45 46 hf ?_
 clear hf s4 s43 s44 s45; intro fr1 hf sS
 refine Zs hK17 fun _ hK18 => Fact.cond_s sS.2.2.2.2 (fun hq => ?_) (fun hq => ?_)
 . (
 have hlt : i < ss.length := by have h9 := of_decide_eq_true hq; omega
 have HQ0 := Lib.hid hq; clear hq
 obtain ⟨s, his⟩ : ∃ s, ss[i]? = some s := ⟨_, gE1 hlt⟩
 obtain ⟨b5, off5, av5, he5, hat⟩ := hr3.at_ his
 injection he5 with he5
 injection he5 with he5 he6
 subst he5; subst he6
 have hsat := hat.later hb
 have d0 := hsat.c0; have d1 := hsat.c1; have d2 := hsat.c2
 obtain ⟨A5, c5, rfl, _⟩ := hat.arcs.form
 have hks := HKK.out s (gM1 his)
 have hsl := hks.few
 have hgs := allGood_step his
 have HS := Lib.hid his; have HGS := Lib.hid hgs; clear his hgs
 have hgb := hgr.base_le
 have hra : RA wr (fun k => ownr k = 4) (.slice A5 s.arcs.length c5) s.arcs := (hat.arcs.more (fun k hk _ => hgr.lo k hk)).later hb
 have hras := hat.arcs.later hb
 clear hat hsat
 obtain ⟨own0, hown0⟩ : ∃ f, (fun k => if k < wr.heap.size then ownr k else 0) = f := ⟨_, rfl⟩
 have h0lt : ∀ k, k < wr.heap.size -> own0 k = ownr k := fun k hk => by rw [<- hown0]; exact if_pos hk
 have hg0 := hgr.told (own' := own0) (fun k hk => by rw [h0lt k (by omega)]; exact hgr.lo k hk) (fun k hk _ _ => h0lt k hk)
 replace hra : RA wr (fun k => own0 k = 4) (.slice A5 s.arcs.length c5) s.arcs := hra.more (fun k hk h4 => by rw [h0lt k hk]; exact h4)
 clear hgr h0lt hown0
 refine wp_skip (Zs hK18 fun _ hK19 => wp_block (Ze fun _ hK20 => Zr [47, 48, 49, 6] hf ?_))
 refine Zq6 4 5 6 43 44 45 hf ?_
 clear hf sS; intro fr1 hf sS
 generalize hW5 : wr.alloc (.cells #[.slice A5 s.arcs.length c5, .bool s.final, .int .u64 s.out] 46) = W5
 obtain ⟨hb5, x0, x1, x2, hh5, hz5_⟩ := box3 hW5
 clear hW5
 have hz5 : wr.heap.size < W5.heap.size := by rw [hz5_]; exact Nat.lt_succ_self _
 clear hz5_
 clear d0 d1 d2
 refine Zs hK20 fun _ hK21 => Zr [50, 51, 7] hf ?_
 refine Zq7 4 5 6 7 43 44 45 hf ?_
 clear hf sS; intro fr1 hf sS
 generalize hW6 : W5.alloc (.cells #[.slice A5 s.arcs.length c5, .bool s.final, .int .u64 s.out, .int .u8 0] 126) = W6
 obtain ⟨hb6, y0, y1, y2, -, -, hz6_⟩ := box4 hW6
 clear hW6
 have hz6 : W5.heap.size < W6.heap.size := by rw [hz6_]; exact Nat.lt_succ_self _
 clear hz6_
 replace x0 := cL hb6 x0; replace x1 := cL hb6 x1; replace x2 := cL hb6 x2
 have hb56 := hb5.trans (hb6.mono hb5.size)
 have hgz := hg0.later hb56
 have hraz := hra.later hb56
 have hrasz := hras.later hb56
 clear hb6 hg0 hra hras
 refine Zx hK21 ?_
 rcases hfin : s.final with _ | _
 . (
 by_cases hemp : s.arcs.length = 0
 . (
 have HFI := Lib.hid hfin; clear hfin
 have q1 := HFI.out
 have HEM := Lib.hid hemp; clear hemp
 have q2 : ((s.arcs.length : Int) == 0) = true := by have h9 := HEM.out; rw [beq_iff_eq]; omega
 refine Ze fun _ hK22 => ?_
 have qs := And.intro q1 q2
 refine Zr [52, 53, 54, 55, 56, 57, 58, 59, 60, 61, 62, 63, 64, 65, 66, 67, 68, 69] hf ?_
 refine Zq5 4 43 44 45 70 hf ?_
 clear hf sS qs; intro fr1 hf sS
 refine Zx hK22 (Fact.cond_t sS.2.2.2.2 ?_)
 have hbad : goodS ss i s = false := by unfold goodS; rw [HFI.out]; rw [decide_eq_true HEM.out]; rfl
 have HBAD := Lib.hid hbad; clear hbad
 refine Ze fun _ hK23 => Zr [] hf ?_
 refine Zq1 2 hf ?_
 clear hf sS; intro fr1 hf s2
 refine Zx hK23 (Zret ?_)
 exact Fact.ret1 rfl hf s2 ⟨by rw [HQ.out, HOF.out, HAG.out, HGS.out, HBAD.out]; rfl, hbw3.trans (Below.mono (hb.trans (hb56.mono hb.size)) (Nat.le_of_lt hzw3))⟩)
 . (
 by_cases hlz : leastOf s = 0
 . (
 by_cases hin : s ∈ ss.take i
 . (
 have HFI := Lib.hid hfin; clear hfin
 have q1 := HFI.out
 have HEM := Lib.hid hemp; clear hemp
 have q2 : ((s.arcs.length : Int) == 0) = false := by have h9 := HEM.out; rw [beq_eq_false_iff_ne]; omega
 have HLZ := Lib.hid hlz; clear hlz
 have q3 : ((leastOf s : Int) != 0) = false := by have h9 := HLZ.out; rw [h9]; rfl
 have HIN := Lib.hid hin; clear hin
 obtain ⟨j, hj1, hj2, hj3⟩ := finish_found HIN.out
 have HJ := Lib.hid hj3; clear hj1 hj3
 have hj4 : j < i := by simp at hj2; omega
 have q4 : ((j : Int) != (i : Int)) = true := by rw [bne_iff_ne]; omega
 refine Ze fun _ hK24 => ?_
 have qs := And.intro q1 (And.intro q2 q3)
 refine rg ?_
 have bB := And.intro (hf.B10 52 53 54 55 56 57 58 59 60 61) (hf.B8 62 63 64 65 66 67 68 69)
 iterate 10 refine Zy ?_
 refine Zd (least34 W6 W5.heap.size 0 s _ _ ⟨y0, y1, y2, hrasz⟩ hks.ok) ?_; rintro e w7 ⟨rfl, hb7⟩
 replace x0 := cL hb7 x0; replace x1 := cL hb7 x1; replace x2 := cL hb7 x2
 have hg7 := hgz.later hb7
 have hra7 := hraz.later hb7
 have hb57 := hb56.trans (hb7.mono hb56.size)
 refine Zv ?_
 iterate 4 refine Zy ?_
 have HH := finish31 w7 hg7 hra7 hks (by simp; omega)
 simp only [sval, HFI.out] at HH
 refine Zd (HH) ?_; rintro e w8 ⟨rfl, ownF, svF, hF1, hF2, hF3, hF4⟩
 have hbz := hb.trans ((hb57.mono hb.size).trans (But.below hF4 (by have := hb.size; have := hb57.size; omega) (fun k hk => by rcases Nat.lt_or_ge k w3.heap.size with h | h; (have := hg7.lo k h; omega); exact h)))
 rw [HJ.out]
 refine Zv ?_
 iterate 3 refine Zy ?_
 refine Fact.nil (Zq5 4 43 44 45 70 hf ?_)
 clear hf sS bB qs; intro fr1 hf sS
 refine Zx hK24 (Fact.cond_t sS.2.2.2.2 ?_)
 have hbad : goodS ss i s = false := by unfold goodS; rw [HFI.out]; rw [decide_eq_false (show ¬ s ∉ ss.take i from fun h => h HIN.out)]; simp
 have HBAD := Lib.hid hbad; clear hbad
 refine Ze fun _ hK25 => Zr [] hf ?_
 refine Zq1 2 hf ?_
 clear hf sS; intro fr1 hf s2
 refine Zx hK25 (Zret ?_)
 exact Fact.ret1 rfl hf s2 ⟨by rw [HQ.out, HOF.out, HAG.out, HGS.out, HBAD.out]; rfl, hbw3.trans (Below.mono (hbz) (Nat.le_of_lt hzw3))⟩)
 . (
 have HFI := Lib.hid hfin; clear hfin
 have q1 := HFI.out
 have HEM := Lib.hid hemp; clear hemp
 have q2 : ((s.arcs.length : Int) == 0) = false := by have h9 := HEM.out; rw [beq_eq_false_iff_ne]; omega
 have HLZ := Lib.hid hlz; clear hlz
 have q3 : ((leastOf s : Int) != 0) = false := by have h9 := HLZ.out; rw [h9]; rfl
 have HIN := Lib.hid hin; clear hin
 have HJ := Lib.hid (finish_new HIN.out)
 have hti : (ss.take i).length = i := by simp; omega
 have HTI := Lib.hid hti; clear hti
 refine Ze fun _ hK26 => ?_
 have qs := And.intro q1 (And.intro q2 q3)
 refine rg ?_
 have bB := And.intro (hf.B10 52 53 54 55 56 57 58 59 60 61) (hf.B8 62 63 64 65 66 67 68 69)
 iterate 10 refine Zy ?_
 refine Zd (least34 W6 W5.heap.size 0 s _ _ ⟨y0, y1, y2, hrasz⟩ hks.ok) ?_; rintro e w7 ⟨rfl, hb7⟩
 replace x0 := cL hb7 x0; replace x1 := cL hb7 x1; replace x2 := cL hb7 x2
 have hg7 := hgz.later hb7
 have hra7 := hraz.later hb7
 have hb57 := hb56.trans (hb7.mono hb56.size)
 refine Zv ?_
 iterate 4 refine Zy ?_
 have HH := finish31 w7 hg7 hra7 hks (by simp; omega)
 simp only [sval, HFI.out] at HH
 refine Zd (HH) ?_; rintro e w8 ⟨rfl, ownF, svF, hF1, hF2, hF3, hF4⟩
 have hbz := hb.trans ((hb57.mono hb.size).trans (But.below hF4 (by have := hb.size; have := hb57.size; omega) (fun k hk => by rcases Nat.lt_or_ge k w3.heap.size with h | h; (have := hg7.lo k h; omega); exact h)))
 rw [HJ.out] at hF3
 rw [HJ.out, HTI.out]
 refine Zv ?_
 iterate 3 refine Zy ?_
 refine Fact.nil (Zq5 4 43 44 45 70 hf ?_)
 clear hf sS bB qs; intro fr1 hf sS
 refine Zx hK26 (Fact.cond_f sS.2.2.2.2 ?_)
 have hgood : goodS ss i s = true := by unfold goodS; rw [HFI.out, decide_eq_true HLZ.out, decide_eq_true HIN.out]; rw [decide_eq_false HEM.out]; rfl
 have HGD := Lib.hid hgood; clear hgood
 refine wp_skip (Fact.block_normal (Zx hK19 (Zr [71] hf ?_)))
 refine Zq4 4 43 44 45 hf ?_
 clear hf sS; intro fr1 hf sS
 refine Fact.then_normal ?_
 obtain ⟨s4, s43, s44, s45⟩ := sS
 exact ⟨_, by have := HK.out; omega, i + 1, ownF, svF, rfl, by omega, hf, s4, s43, s44, by rw [s45]; rfl, by rw [List.take_add_one, HS.out]; exact hF3, by rw [HAG.out, HGS.out, HGD.out]; rfl, hbz⟩))
 . (
 have HFI := Lib.hid hfin; clear hfin
 have q1 := HFI.out
 have HEM := Lib.hid hemp; clear hemp
 have q2 : ((s.arcs.length : Int) == 0) = false := by have h9 := HEM.out; rw [beq_eq_false_iff_ne]; omega
 have HLZ := Lib.hid hlz; clear hlz
 have q3 : ((leastOf s : Int) != 0) = true := by have h9 := HLZ.out; rw [bne_iff_ne]; omega
 refine Ze fun _ hK27 => ?_
 have qs := And.intro q1 (And.intro q2 q3)
 refine rg ?_
 have bB := And.intro (hf.B10 52 53 54 55 56 57 58 59 60 61) (hf.B8 62 63 64 65 66 67 68 69)
 iterate 10 refine Zy ?_
 refine Zd (least34 W6 W5.heap.size 0 s _ _ ⟨y0, y1, y2, hrasz⟩ hks.ok) ?_; rintro e w7 ⟨rfl, hb7⟩
 replace x0 := cL hb7 x0; replace x1 := cL hb7 x1; replace x2 := cL hb7 x2
 have hg7 := hgz.later hb7
 have hra7 := hraz.later hb7
 have hb57 := hb56.trans (hb7.mono hb56.size)
 refine Zv ?_
 iterate 8 refine Zy ?_
 refine Fact.nil (Zq5 4 43 44 45 70 hf ?_)
 clear hf sS bB qs; intro fr1 hf sS
 refine Zx hK27 (Fact.cond_t sS.2.2.2.2 ?_)
 have hbad : goodS ss i s = false := by unfold goodS; rw [HFI.out]; rw [decide_eq_false HLZ.out]; simp
 have HBAD := Lib.hid hbad; clear hbad
 refine Ze fun _ hK28 => Zr [] hf ?_
 refine Zq1 2 hf ?_
 clear hf sS; intro fr1 hf s2
 refine Zx hK28 (Zret ?_)
 exact Fact.ret1 rfl hf s2 ⟨by rw [HQ.out, HOF.out, HAG.out, HGS.out, HBAD.out]; rfl, hbw3.trans (Below.mono (hb.trans (hb57.mono hb.size)) (Nat.le_of_lt hzw3))⟩)))
 . (
 by_cases hlz : leastOf s = 0
 . (
 by_cases hin : s ∈ ss.take i
 . (
 have HFI := Lib.hid hfin; clear hfin
 have q1 := HFI.out
 have HLZ := Lib.hid hlz; clear hlz
 have q3 : ((leastOf s : Int) != 0) = false := by have h9 := HLZ.out; rw [h9]; rfl
 have HIN := Lib.hid hin; clear hin
 obtain ⟨j, hj1, hj2, hj3⟩ := finish_found HIN.out
 have HJ := Lib.hid hj3; clear hj1 hj3
 have hj4 : j < i := by simp at hj2; omega
 have q4 : ((j : Int) != (i : Int)) = true := by rw [bne_iff_ne]; omega
 refine Ze fun _ hK29 => ?_
 have qs := And.intro q1 q3
 refine rg ?_
 have bB := And.intro (hf.B10 52 53 54 55 56 57 58 59 60 61) (hf.B8 62 63 64 65 66 67 68 69)
 iterate 10 refine Zy ?_
 refine Zd (least34 W6 W5.heap.size 0 s _ _ ⟨y0, y1, y2, hrasz⟩ hks.ok) ?_; rintro e w7 ⟨rfl, hb7⟩
 replace x0 := cL hb7 x0; replace x1 := cL hb7 x1; replace x2 := cL hb7 x2
 have hg7 := hgz.later hb7
 have hra7 := hraz.later hb7
 have hb57 := hb56.trans (hb7.mono hb56.size)
 refine Zv ?_
 iterate 4 refine Zy ?_
 have HH := finish31 w7 hg7 hra7 hks (by simp; omega)
 simp only [sval, HFI.out] at HH
 refine Zd (HH) ?_; rintro e w8 ⟨rfl, ownF, svF, hF1, hF2, hF3, hF4⟩
 have hbz := hb.trans ((hb57.mono hb.size).trans (But.below hF4 (by have := hb.size; have := hb57.size; omega) (fun k hk => by rcases Nat.lt_or_ge k w3.heap.size with h | h; (have := hg7.lo k h; omega); exact h)))
 rw [HJ.out]
 refine Zv ?_
 iterate 3 refine Zy ?_
 refine Fact.nil (Zq5 4 43 44 45 70 hf ?_)
 clear hf sS bB qs; intro fr1 hf sS
 refine Zx hK29 (Fact.cond_t sS.2.2.2.2 ?_)
 have hbad : goodS ss i s = false := by unfold goodS; rw [HFI.out]; rw [decide_eq_false (show ¬ s ∉ ss.take i from fun h => h HIN.out)]; simp
 have HBAD := Lib.hid hbad; clear hbad
 refine Ze fun _ hK30 => Zr [] hf ?_
 refine Zq1 2 hf ?_
 clear hf sS; intro fr1 hf s2
 refine Zx hK30 (Zret ?_)
 exact Fact.ret1 rfl hf s2 ⟨by rw [HQ.out, HOF.out, HAG.out, HGS.out, HBAD.out]; rfl, hbw3.trans (Below.mono (hbz) (Nat.le_of_lt hzw3))⟩)
 . (
 have HFI := Lib.hid hfin; clear hfin
 have q1 := HFI.out
 have HLZ := Lib.hid hlz; clear hlz
 have q3 : ((leastOf s : Int) != 0) = false := by have h9 := HLZ.out; rw [h9]; rfl
 have HIN := Lib.hid hin; clear hin
 have HJ := Lib.hid (finish_new HIN.out)
 have hti : (ss.take i).length = i := by simp; omega
 have HTI := Lib.hid hti; clear hti
 refine Ze fun _ hK31 => ?_
 have qs := And.intro q1 q3
 refine rg ?_
 have bB := And.intro (hf.B10 52 53 54 55 56 57 58 59 60 61) (hf.B8 62 63 64 65 66 67 68 69)
 iterate 10 refine Zy ?_
 refine Zd (least34 W6 W5.heap.size 0 s _ _ ⟨y0, y1, y2, hrasz⟩ hks.ok) ?_; rintro e w7 ⟨rfl, hb7⟩
 replace x0 := cL hb7 x0; replace x1 := cL hb7 x1; replace x2 := cL hb7 x2
 have hg7 := hgz.later hb7
 have hra7 := hraz.later hb7
 have hb57 := hb56.trans (hb7.mono hb56.size)
 refine Zv ?_
 iterate 4 refine Zy ?_
 have HH := finish31 w7 hg7 hra7 hks (by simp; omega)
 simp only [sval, HFI.out] at HH
 refine Zd (HH) ?_; rintro e w8 ⟨rfl, ownF, svF, hF1, hF2, hF3, hF4⟩
 have hbz := hb.trans ((hb57.mono hb.size).trans (But.below hF4 (by have := hb.size; have := hb57.size; omega) (fun k hk => by rcases Nat.lt_or_ge k w3.heap.size with h | h; (have := hg7.lo k h; omega); exact h)))
 rw [HJ.out] at hF3
 rw [HJ.out, HTI.out]
 refine Zv ?_
 iterate 3 refine Zy ?_
 refine Fact.nil (Zq5 4 43 44 45 70 hf ?_)
 clear hf sS bB qs; intro fr1 hf sS
 refine Zx hK31 (Fact.cond_f sS.2.2.2.2 ?_)
 have hgood : goodS ss i s = true := by unfold goodS; rw [HFI.out, decide_eq_true HLZ.out, decide_eq_true HIN.out]; rfl
 have HGD := Lib.hid hgood; clear hgood
 refine wp_skip (Fact.block_normal (Zx hK19 (Zr [71] hf ?_)))
 refine Zq4 4 43 44 45 hf ?_
 clear hf sS; intro fr1 hf sS
 refine Fact.then_normal ?_
 obtain ⟨s4, s43, s44, s45⟩ := sS
 exact ⟨_, by have := HK.out; omega, i + 1, ownF, svF, rfl, by omega, hf, s4, s43, s44, by rw [s45]; rfl, by rw [List.take_add_one, HS.out]; exact hF3, by rw [HAG.out, HGS.out, HGD.out]; rfl, hbz⟩))
 . (
 have HFI := Lib.hid hfin; clear hfin
 have q1 := HFI.out
 have HLZ := Lib.hid hlz; clear hlz
 have q3 : ((leastOf s : Int) != 0) = true := by have h9 := HLZ.out; rw [bne_iff_ne]; omega
 refine Ze fun _ hK32 => ?_
 have qs := And.intro q1 q3
 refine rg ?_
 have bB := And.intro (hf.B10 52 53 54 55 56 57 58 59 60 61) (hf.B8 62 63 64 65 66 67 68 69)
 iterate 10 refine Zy ?_
 refine Zd (least34 W6 W5.heap.size 0 s _ _ ⟨y0, y1, y2, hrasz⟩ hks.ok) ?_; rintro e w7 ⟨rfl, hb7⟩
 replace x0 := cL hb7 x0; replace x1 := cL hb7 x1; replace x2 := cL hb7 x2
 have hg7 := hgz.later hb7
 have hra7 := hraz.later hb7
 have hb57 := hb56.trans (hb7.mono hb56.size)
 refine Zv ?_
 iterate 8 refine Zy ?_
 refine Fact.nil (Zq5 4 43 44 45 70 hf ?_)
 clear hf sS bB qs; intro fr1 hf sS
 refine Zx hK32 (Fact.cond_t sS.2.2.2.2 ?_)
 have hbad : goodS ss i s = false := by unfold goodS; rw [HFI.out]; rw [decide_eq_false HLZ.out]; simp
 have HBAD := Lib.hid hbad; clear hbad
 refine Ze fun _ hK33 => Zr [] hf ?_
 refine Zq1 2 hf ?_
 clear hf sS; intro fr1 hf s2
 refine Zx hK33 (Zret ?_)
 exact Fact.ret1 rfl hf s2 ⟨by rw [HQ.out, HOF.out, HAG.out, HGS.out, HBAD.out]; rfl, hbw3.trans (Below.mono (hb.trans (hb57.mono hb.size)) (Nat.le_of_lt hzw3))⟩)))
 . (
 have hie : i = ss.length := by have h9 := of_decide_eq_false hq; omega
 have HIE := Lib.hid hie; clear hie hq
 refine Zo ?_
 refine Zs hK15 fun _ hK34 => Zr [] hf ?_
 refine Zq1 2 hf ?_
 clear hf sS; intro fr1 hf s2
 refine Zx hK34 (Zret ?_)
 refine Fact.ret1 rfl hf s2 ⟨?_, hbw3.trans (hb.mono (Nat.le_of_lt hzw3))⟩
 rw [HQ.out, HOF.out, HAG.out, HIE.out, List.drop_length]; rfl)))))
def buildF (es : List Ent) : Fst := if chkN es = 0 then build (es.map wvE) else ⟨[], 0⟩
theorem build8 (w : World) (es : List Ent) (B : Nat) (v : Value) (hB : B <= w.heap.size) (hre : RE w B v es) (hlen : es.length <= 100) (hes : ∀ e ∈ es, okE e) :
  Calls Tryz.prog 27 #[v] w fun e w1 => ∃ sv, e = .returned (.tuple #[.agg #[sv, .int .u64 (buildF es).init], .int .i64 (chkN es : Nat)]) /\ RS w1 sv (buildF es).states /\ (∀ s ∈ (buildF es).states, okK s) /\ (buildF es).states.length <= 2 + 255 * es.length /\ Below w.heap.size w w1 := by
 by_cases hc : chkN es = 0
 ·refine (build8g w es B v hB hre hlen hes hc).mono ?_
  rintro e w1 ⟨sv, rfl, h2, h4, h5, h3⟩
  unfold buildF
  rw [if_pos hc, hc]
  exact ⟨sv, rfl, h2, h4, h5, h3⟩
 ·refine (build8b w es B v hB hre hlen hc).mono ?_
  rintro e w1 ⟨rfl, h3⟩
  unfold buildF
  rw [if_neg hc]
  exact ⟨_, rfl, RS.nil_ _, by simp, by simp, h3⟩
theorem okW_eq (s : ByteArray) : okW s = (decide (1 <= s.size) && decide (s.size <= 255)) := by
 unfold okW
 have h1 : s.toList.length = s.size := by rw [ByteArray.toList_eq, Array.length_toList]; rfl
 congr 1
 cases hl : s.toList with
 | nil =>
  have h2 : s.size = 0 := by rw [<- h1, hl]; rfl
  rw [h2]; rfl
 | cons x l =>
  have h2 : 1 <= s.size := by rw [<- h1, hl]; simp
  rw [decide_eq_true h2]; rfl
/-! bare -/
def bareE (e : Ent) : Ent := if e.gone then ⟨e.word, 0, e.gone⟩ else e
theorem bareE_ok {e : Ent} (h : okE e) : okE (bareE e) := by unfold bareE; split; exact ⟨by simp, by simp⟩; exact h
theorem bareE_word (e : Ent) : (bareE e).word = e.word := by unfold bareE; split <;> rfl
/-! drafts -/
structure Dra where
 letters : List Int
 weight : Int
 gone : Bool
def okD (d : Dra) : Prop := (∀ x ∈ d.letters, 0 <= x /\ x <= 255) /\ 0 <= d.weight /\ d.weight < 4294967296
def dletter (x : Int) : Int := if x % 8 < 7 then 97 + x % 8 % 3 else x
def dbody (l : List Int) : ByteArray := l.foldl (fun s x => s ++ strOfNums [dletter x]) ⟨#[]⟩
def dword (l : List Int) : ByteArray := if (dbody (l.take 9)).toList = [] then ⟨#[97]⟩ else dbody (l.take 9)
def Dra.ent (d : Dra) : Ent := bareE ⟨dword d.letters, d.weight, d.gone⟩
theorem strOf1 (x : Int) : (strOfNums [x]).size = 1 := rfl
theorem dbody_snoc (l : List Int) (x : Int) : dbody (l ++ [x]) = dbody l ++ strOfNums [dletter x] := by simp [dbody]
theorem dbody_size (l : List Int) : (dbody l).size = l.length := by
 have key : ∀ (l : List Int) (s : ByteArray), (l.foldl (fun s x => s ++ strOfNums [dletter x]) s).size = s.size + l.length := by
  intro l
  induction l with
  | nil => intro s; simp
  | cons x l ih => intro s; rw [List.foldl_cons, ih, ByteArray.size_append, strOf1]; simp; omega
 have := key l ⟨#[]⟩
 rw [show (⟨#[]⟩ : ByteArray).size = 0 from rfl, Nat.zero_add] at this
 exact this
theorem toList_length (s : ByteArray) : s.toList.length = s.size := by rw [ByteArray.toList_eq, Array.length_toList]; rfl
theorem dword_size (l : List Int) : 1 <= (dword l).size /\ (dword l).size <= 9 := by
 unfold dword
 have h1 := toList_length (dbody (l.take 9))
 have h2 := dbody_size (l.take 9)
 have h3 : (l.take 9).length <= 9 := by simp; omega
 split
 ·decide
 ·rename_i h
  refine ⟨?_, by omega⟩
  rcases Nat.eq_zero_or_pos (dbody (l.take 9)).size with h4 | h4
  ·exact absurd (List.eq_nil_of_length_eq_zero (h1.trans h4)) h
  ·exact h4
theorem ent_okE {d : Dra} (h : okD d) : okE d.ent := bareE_ok ⟨h.2.1, h.2.2⟩
theorem ent_okW (d : Dra) : okW d.ent.word = true := by
 unfold Dra.ent
 rw [bareE_word, okW_eq]
 have := dword_size d.letters
 rw [decide_eq_true this.1, decide_eq_true (show (dword d.letters).size <= 255 by omega)]
 rfl
theorem conv1 (W : World) (y : Int) : (convert 31 9 (.slice (some ⟨W.heap.size, 0, none⟩) 1 1)).run Tryz.prog (W.alloc (.cells #[.int .u8 y] 5)) = .ok (.string (strOfNums [y])) (W.alloc (.cells #[.int .u8 y] 5)) := by
 refine run_convert_bytes_arg (P := Tryz.prog) _ 31 5 Tryz.underlying31 Tryz.underlying5 W.heap.size 0 1 1 [y] rfl (fun i hi => ?_) 9 Tryz.underlying9
 obtain rfl : i = 0 := by omega
 exact cR1 0 (heap_alloc_new W (.cells #[.int .u8 y] 5))
def RU (w : World) (B : Nat) (v : Value) (l : List Int) : Prop := ∃ (A : Option Addr) (c : Nat), v = .slice A l.length c /\ l.length <= 9223372036854775807 /\ (0 < l.length -> ∃ b off, A = some ⟨b, off, none⟩ /\ b < B /\ ∀ (i : Nat) (x : Int), l[i]? = some x -> w.cell? ⟨b, off + i, none⟩ = some (.int .u8 x))
def RDs (w : World) (B : Nat) (v : Value) (ds : List Dra) : Prop := ∃ (A : Option Addr) (c : Nat), v = .slice A ds.length c /\ ds.length <= 9223372036854775807 /\ (0 < ds.length -> ∃ b off, A = some ⟨b, off, none⟩ /\ b < B /\
 ∀ (i : Nat) (d : Dra), ds[i]? = some d -> ∃ lv, w.cell? ⟨b, off + i * 3, none⟩ = some lv /\ w.cell? ⟨b, off + i * 3 + 1, none⟩ = some (.int .u32 d.weight) /\ w.cell? ⟨b, off + i * 3 + 2, none⟩ = some (.bool d.gone) /\ RU w B lv d.letters)
section
variable {w w' : World} {B B' : Nat} {v : Value} {l : List Int} {ds : List Dra}
theorem RU.below (h : RU w B v l) (hb : Below B w w') : RU w' B v l := by
 obtain ⟨A, c, h1, h2, h3⟩ := h
 refine ⟨A, c, h1, h2, fun h0 => ?_⟩
 obtain ⟨b, off, h4, h5, h6⟩ := h3 h0
 exact ⟨b, off, h4, h5, fun i x hi => old_cell hb (h6 i x hi) h5⟩
theorem RU.more (h : RU w B v l) (hB : B <= B') : RU w B' v l := by
 obtain ⟨A, c, h1, h2, h3⟩ := h
 refine ⟨A, c, h1, h2, fun h0 => ?_⟩
 obtain ⟨b, off, h4, h5, h6⟩ := h3 h0
 exact ⟨b, off, h4, by omega, h6⟩
theorem RU.form (h : RU w B v l) : ∃ (A : Option Addr) (c : Nat), v = .slice A l.length c /\ l.length <= 9223372036854775807 := by
 obtain ⟨A, c, h1, h2, _⟩ := h
 exact ⟨A, c, h1, h2⟩
theorem RU.at_ {A : Option Addr} {n c : Nat} (h : RU w B (.slice A n c) l) {i : Nat} {x : Int} (hi : l[i]? = some x) : ∃ b off, A = some ⟨b, off, none⟩ /\ b < B /\ w.cell? ⟨b, off + i, none⟩ = some (.int .u8 x) := by
 obtain ⟨A', c', h1, h2, h3⟩ := h
 injection h1 with h1
 have h0 := (gS1 hi).1
 obtain ⟨b, off, h4, h5, h6⟩ := h3 (by omega)
 exact ⟨b, off, h1.trans h4, h5, h6 i x hi⟩
theorem RDs.below (h : RDs w B v ds) (hb : Below B w w') : RDs w' B v ds := by
 obtain ⟨A, c, h1, h2, h3⟩ := h
 refine ⟨A, c, h1, h2, fun h0 => ?_⟩
 obtain ⟨b, off, h4, h5, h6⟩ := h3 h0
 refine ⟨b, off, h4, h5, fun i d hi => ?_⟩
 obtain ⟨lv, k0, k1, k2, k3⟩ := h6 i d hi
 exact ⟨lv, old_cell hb k0 h5, old_cell hb k1 h5, old_cell hb k2 h5, k3.below hb⟩
theorem RDs.more (h : RDs w B v ds) (hB : B <= B') : RDs w B' v ds := by
 obtain ⟨A, c, h1, h2, h3⟩ := h
 refine ⟨A, c, h1, h2, fun h0 => ?_⟩
 obtain ⟨b, off, h4, h5, h6⟩ := h3 h0
 refine ⟨b, off, h4, by omega, fun i d hi => ?_⟩
 obtain ⟨lv, k0, k1, k2, k3⟩ := h6 i d hi
 exact ⟨lv, k0, k1, k2, k3.more hB⟩
theorem RDs.form (h : RDs w B v ds) : ∃ (A : Option Addr) (c : Nat), v = .slice A ds.length c /\ ds.length <= 9223372036854775807 := by
 obtain ⟨A, c, h1, h2, _⟩ := h
 exact ⟨A, c, h1, h2⟩
theorem RDs.at_ {A : Option Addr} {n c : Nat} (h : RDs w B (.slice A n c) ds) {i : Nat} {d : Dra} (hi : ds[i]? = some d) : ∃ b off lv, A = some ⟨b, off, none⟩ /\ b < B /\ w.cell? ⟨b, off + i * 3, none⟩ = some lv /\ w.cell? ⟨b, off + i * 3 + 1, none⟩ = some (.int .u32 d.weight) /\ w.cell? ⟨b, off + i * 3 + 2, none⟩ = some (.bool d.gone) /\ RU w B lv d.letters := by
 obtain ⟨A', c', h1, h2, h3⟩ := h
 injection h1 with h1
 have h0 := (gS1 hi).1
 obtain ⟨b, off, h4, h5, h6⟩ := h3 (by omega)
 obtain ⟨lv, k⟩ := h6 i d hi
 exact ⟨b, off, lv, h1.trans h4, h5, k⟩
end
abbrev OE (w : World) (base : Nat) (v : Value) (es : List Ent) : Prop := w.ownsRow base 64 3 v es.length (ecs es)
theorem ecs_append (a b : List Ent) : ecs (a ++ b) = ecs a ++ ecs b := by simp [ecs]
theorem OE.nil_ (w : World) (base : Nat) : OE w base (.slice none 0 0) [] := World.ownsRow_nil _ _ _ _
theorem OE.re {w : World} {base : Nat} {v : Value} {es : List Ent} (h : OE w base v es) : RE w w.heap.size v es := by
 rcases h.2 with ⟨rfl, h0⟩ | ⟨g, cap, cur, rfl, _, hh, hc, _⟩
 ·obtain rfl : es = [] := List.eq_nil_of_length_eq_zero h0
  exact ⟨none, 0, rfl, by simp, fun h => absurd h (by simp)⟩
 ·refine ⟨_, _, rfl, hc, fun _ => ⟨g, 0, rfl, heap_lt hh, fun j u hu => ?_⟩⟩
  have := h.cellAt j (by rw [<- ecs_length]; exact (gS1 hu).1)
  rw [Nat.zero_add, this, hu]
theorem OE.form {w : World} {base : Nat} {v : Value} {es : List Ent} (h : OE w base v es) : ∃ (A : Option Addr) (c : Nat), v = .slice A es.length c /\ es.length <= c := h.re.form
theorem info_ent : (Tryz.prog.info? 64).map (fun i => (i.zero, i.size, i.bytes)) = some (some (.agg #[.string ⟨#[]⟩, .int .u32 0, .bool false]), 3, 24) := by kernel_rfl
theorem ent_one (e : Ent) : ∀ u ∈ e.cells, u.oneCell' = true := by
 intro u hu
 simp [Ent.cells] at hu
 rcases hu with rfl | rfl | rfl <;> rfl
/-! lists -/
def oneE (l : List Ent) (e : Ent) : List Ent := l.takeWhile (fun x => lexlt (wl x.word) (wl e.word)) ++ [bareE e] ++ l.filter fun x => lexlt (wl e.word) (wl x.word)
def withE (l es : List Ent) : List Ent := es.foldl oneE l
def entsOf (ds : List Dra) (most : Nat) : List Ent := (ds.take most).map Dra.ent
def listOf (ds : List Dra) (most : Nat) : List Ent := withE [] (entsOf ds most)
end Dw
end Go.Proofs.YtcddnmhmcieebaaGreatDoor
